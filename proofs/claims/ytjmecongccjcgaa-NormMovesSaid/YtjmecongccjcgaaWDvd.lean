/- The plain law of a long division by a divisor of several digits. whole.div by a divisor of several limbs. whole.div by any divisor above 0. whole.Divide, Down, by any divisor above 0. -/
import Derived.Test.YtjmecongccjcgaaWStep
import Derived.Test.YtjmecongccjcgaaLeft
import Derived.ArgAppend
namespace Go.Proofs.Ytjmecongccjcgaa
theorem win_succ {zs : List Int} {i m : Nat} (h : i < zs.length) : win i (m + 1) zs = zs.getD i 0 + B64 * win (i + 1) m zs := by
  unfold win
  rw [show zs.drop i = zs.getD i 0 :: zs.drop (i + 1) by
    rw [List.getD_eq_getElem?_getD, List.getElem?_eq_getElem h]; exact List.drop_eq_getElem_cons h]
  rw [List.take_succ_cons, val]
theorem win_last (zs : List Int) (i m : Nat) : win i (m + 1) zs = win i m zs + zs.getD (i + m) 0 * B64 ^ m := by
  unfold win
  rw [val_take_succ, getD_drop']
/-- The quotient's digits from place j on are found; what is left of X lies in zs. -/
structure DvL (X Y : Int) (m N j : Nat) (zs qs : List Int) : Prop where
  len : zs.length = N
  digs : Digs B64 zs
  qlen : qs.length = N - m
  qdigs : Digs B64 qs
  zero : ∀ i, j + m ≤ i → zs.getD i 0 = 0
  low : ∀ i, i < j → qs.getD i 0 = 0
  is : val B64 zs + Y * val B64 qs = X
  top : win j m zs < Y
theorem DvL.start {X Y : Int} {m N : Nat} {zs : List Int} (hl : zs.length = N) (hd : Digs B64 zs) (hx : val B64 zs = X) (hm : 1 ≤ m) (hN : m ≤ N) (ht : zs.getD (N - 1) 0 = 0) (hY : B64 ^ (m - 1) ≤ Y) :
    DvL X Y m N (N - m) zs (List.replicate (N - m) 0) := by
  refine ⟨hl, hd, by simp, fun d h => ?_, fun i hi => ?_, fun i hi => ?_, ?_, ?_⟩
  · have := List.eq_of_mem_replicate h; subst this; exact ⟨Int.le_refl _, by decide⟩
  · rw [List.getD_eq_getElem?_getD, List.getElem?_eq_none (by omega)]; rfl
  · rw [List.getD_eq_getElem?_getD]; simp [List.getElem?_replicate]; split <;> rfl
  · rw [val_zeros B64 (List.replicate (N - m) 0) (fun i hi => by rw [List.getD_eq_getElem?_getD]; simp [List.getElem?_replicate]; split <;> rfl), Int.mul_zero, Int.add_zero]; exact hx
  · obtain ⟨k, rfl⟩ : ∃ k, m = k + 1 := ⟨m - 1, by omega⟩
    rw [win_last, show N - (k + 1) + k = N - 1 by omega, ht, Int.zero_mul, Int.add_zero]
    have := (win_bd hd (N - (k + 1)) k (by omega)).2
    exact Int.lt_of_lt_of_le this (by simpa using hY)
theorem DvL.pre {X Y : Int} {m N i : Nat} {zs qs : List Int} (h : DvL X Y m N (i + 1) zs qs) (hi : i < N) : win i (m + 1) zs < Y * 18446744073709551616 := by
  rw [win_succ (by rw [h.len]; exact hi)]
  have a := h.top
  have b := (h.digs.at i (by rw [h.len]; exact hi)).2
  have c : B64 * win (i + 1) m zs = 18446744073709551616 * win (i + 1) m zs := rfl
  unfold B64 at b
  rw [c]
  omega
theorem Stepped.val {zs ys zs' : List Int} {o : Nat} (h : Stepped zs ys zs' o) (ho : o + (ys.length + 1) ≤ zs.length) (_hY : 0 < val B64 ys) :
    Go.Proofs.Ytjmecongccjcgaa.val B64 zs' + val B64 ys * (win o (ys.length + 1) zs / val B64 ys * B64 ^ o) = val B64 zs := by
  rw [val_win (zs := zs') (o := o) (m := ys.length + 1) (by rw [h.len]; exact ho), val_win (zs := zs) ho, take_same h.len (fun j hj => h.same j (.inl hj)), drop_same (o := o + (ys.length + 1)) h.len (fun j hj => h.same j (.inr (by omega))), h.is]
  have e := Int.emod_add_mul_ediv (win o (ys.length + 1) zs) (Go.Proofs.Ytjmecongccjcgaa.val B64 ys)
  generalize win o (ys.length + 1) zs / Go.Proofs.Ytjmecongccjcgaa.val B64 ys = q at *
  generalize win o (ys.length + 1) zs % Go.Proofs.Ytjmecongccjcgaa.val B64 ys = r at *
  generalize win o (ys.length + 1) zs = W at *
  generalize Go.Proofs.Ytjmecongccjcgaa.val B64 ys = Y at *
  generalize B64 ^ o = P at *
  have e2 : P * W = P * r + Y * (q * P) := by rw [← e, Int.mul_add, Int.mul_left_comm P Y q, Int.mul_comm P q]
  rw [e2]
  omega
theorem DvL.step {X Y : Int} {N i : Nat} {zs qs zs' ys : List Int} (h : DvL X Y ys.length N (i + 1) zs qs) (st : Stepped zs ys zs' i) (hY : val B64 ys = Y) (Y0 : 0 < Y) (dy : Digs B64 ys) (hi : i + 1 + ys.length ≤ N)
    (q0 : 0 ≤ win i (ys.length + 1) zs / Y) (q1 : win i (ys.length + 1) zs / Y ≤ 18446744073709551615) : DvL X Y ys.length N i zs' (qs.set i (win i (ys.length + 1) zs / Y)) := by
  have hl : zs'.length = N := by rw [st.len]; exact h.len
  have hR : win i (ys.length + 1) zs' < Y := by rw [st.is, hY]; exact Int.emod_lt_of_pos _ Y0
  have hYb : Y < B64 ^ ys.length := by rw [← hY]; exact (val_bd b64_pos ys dy).2
  have hlast := win_last zs' i ys.length
  have w0 := (win_bd st.digs i ys.length (by rw [hl]; omega)).1
  have d0 := (st.digs.at (i + ys.length) (by rw [hl]; omega)).1
  have htop : zs'.getD (i + ys.length) 0 = 0 := by
    rcases Int.lt_or_le 0 (zs'.getD (i + ys.length) 0) with hp | hp
    · exfalso
      have := Int.mul_le_mul_of_nonneg_right (show (1 : Int) ≤ zs'.getD (i + ys.length) 0 by omega) (Int.le_of_lt (pow64_pos ys.length))
      rw [Int.one_mul] at this
      omega
    · omega
  refine ⟨hl, st.digs, by rw [List.length_set]; exact h.qlen, h.qdigs.set _ q0 (by unfold B64; omega), fun k hk => ?_, fun k hk => ?_, ?_, ?_⟩
  · rcases Nat.eq_or_lt_of_le hk with rfl | hk
    · exact htop
    · rw [st.same k (.inr (by omega))]; exact h.zero k (by omega)
  · rw [getD_set_ne _ _ _ _ (by omega)]; exact h.low k (by omega)
  · rw [val_set _ _ _ _ (by rw [h.qlen]; omega), h.low i (by omega), Int.sub_zero, Int.mul_add]
    have e := st.val (by rw [h.len]; omega) (by rw [hY]; exact Y0)
    rw [hY] at e
    have := h.is
    omega
  · rw [htop, Int.zero_mul, Int.add_zero] at hlast
    rw [← hlast]; exact hR
theorem DvL.done {X Y : Int} {m N : Nat} {zs qs : List Int} (h : DvL X Y m N 0 zs qs) (Y0 : 0 < Y) : val B64 qs = X / Y ∧ val B64 (zs.take m) = X % Y := by
  have e1 : val B64 (zs.take m) = val B64 zs := val_take B64 zs m (fun i h1 _ => h.zero i (by omega))
  have e2 : win 0 m zs = val B64 (zs.take m) := by unfold win; rw [List.drop_zero]
  have e3 := h.top
  rw [e2, e1] at e3
  have e4 := (val_bd b64_pos zs h.digs).1
  have e5 := h.is
  rw [e1]
  generalize val B64 zs = R at *
  generalize val B64 qs = q at *
  subst e5
  refine ⟨?_, ?_⟩
  · rw [Int.add_mul_ediv_left _ _ (by omega), Int.ediv_eq_zero_of_lt e4 e3, Int.zero_add]
  · rw [Int.add_mul_emod_self_left, Int.emod_eq_of_lt e4 e3]
end Go.Proofs.Ytjmecongccjcgaa
namespace Go.Proofs.Ytjmecongccjcgaa
open Go.RowKit
theorem lz_any {x : Int} (x0 : 0 < x) (x1 : x < 18446744073709551616) : ∃ s : Nat, s < 64 ∧ ∀ w : World, Calls Try.prog 136 #[.int .u64 x] w fun e w' => e = .returned (.int .i64 s) ∧ w = w' := by
  have b1 := blen_le x 64 (Nat.le_refl _) (by exact x1)
  have b2 : 1 ≤ blen x := by
    rcases Int.lt_or_le (blen x) 1 with h | h
    · have := blen_lt x (by omega) x1
      have h0 := blen_nn x
      rw [show blen x = 0 by omega] at this
      simp at this
      omega
    · exact h
  refine ⟨(64 - blen x).toNat, by omega, fun w => ?_⟩
  have e : ((64 - blen x).toNat : Int) = 64 - blen x := by omega
  have L := Lib.hid (fun w => len64_any x w (by omega) x1)
  rw [e]
  generalize blen x = b at *
  clear e
  go_enter Try.func136, Try.ntmps136
  go_wp2_with fail; refine (L.out _).mono ?_; rintro e w' ⟨rfl, rfl⟩
  go_wp2
  go_ret
  exact ⟨rfl, rfl⟩
def lenV : Value → Nat
  | .slice _ n _ => n
  | _ => 0
theorem mform {W : World} {base : Nat} {e : TypeId} {size : Nat} {v : Value} {k : Nat} {xs : List Value} (h : W.ownsRow base e size v k xs) : ∃ a cap, v = .slice a k cap := by
  rcases h.2 with ⟨rfl, rfl⟩ | ⟨g, cap, cur, rfl, _⟩
  · exact ⟨_, _, rfl⟩
  · exact ⟨_, _, rfl⟩
theorem s_set' {w : World} {base : Nat} {e : TypeId} {g n cap : Nat} {zs : List Int} {k : IntKind} (h : w.ownsRow base e 1 (.slice (some ⟨g, 0, none⟩) n cap) n (zs.map (Value.int k))) (j : Nat) (d : Int) :
    (w.setCell ⟨g, j, none⟩ (.int k d)).ownsRow base e 1 (.slice (some ⟨g, 0, none⟩) n cap) n ((zs.set j d).map (Value.int k)) := own_set h j d
theorem s_at' {w : World} {base : Nat} {e : TypeId} {g n cap : Nat} {zs : List Int} {k : IntKind} (h : w.ownsRow base e 1 (.slice (some ⟨g, 0, none⟩) n cap) n (zs.map (Value.int k))) (j : Nat) (hj : j < n) :
    w.cell? ⟨g, j, none⟩ = some (.int k (zs.getD j 0)) := owns_at h j hj
/-- A row with a nought on top that is not less than B64^(m - 1) has more than m digits. -/
theorem len_more {zs : List Int} {m : Nat} (hd : Digs B64 zs) (ht : zs.getD (zs.length - 1) 0 = 0) (hz : 1 ≤ zs.length) (hm : 1 ≤ m) (h : B64 ^ (m - 1) ≤ val B64 zs) : m + 1 ≤ zs.length := by
  rcases Nat.lt_or_ge m zs.length with hl | hl
  · exact hl
  · exfalso
    obtain ⟨k, hk⟩ : ∃ k, zs.length = k + 1 := ⟨zs.length - 1, by omega⟩
    have e := val_take_succ B64 zs k
    rw [List.take_of_length_le (by omega)] at e
    rw [hk, Nat.add_sub_cancel] at ht
    rw [ht, Int.zero_mul, Int.add_zero] at e
    have b := (val_bd b64_pos (zs.take k) (hd.take k)).2
    rw [List.length_take, Nat.min_eq_left (by omega), ← e] at b
    have p : B64 ^ k ≤ B64 ^ (m - 1) := pow_mono' (by decide) (by omega)
    omega
theorem Row.cells {k : IntKind} {w : World} {v : Value} {ds : List Int} (h : Row k w v ds) : ∃ ao cap, v = .slice ao ds.length cap ∧ (ds ≠ [] → ao ≠ none) ∧ ∀ b, ao = some b → ∀ j u, (ds.map (Value.int k))[j]? = some u → w.cell? (b.add j) = some u := by
  obtain ⟨a, cap, rfl, h1, h2, h3⟩ := h
  refine ⟨a, cap, rfl, fun hn => ?_, fun b hb j u hj => ?_⟩
  · obtain ⟨b, o, rfl, -⟩ := h3 hn; simp
  · have hjn : j < ds.length := by have := (List.getElem?_eq_some_iff.1 hj).1; simpa using this
    obtain ⟨b', o, e, hc⟩ := h3 (by intro e; subst e; simp at hjn)
    cases hb.symm.trans e
    rw [Addr.add_lit, hc j hjn]
    have e : (ds.map (Value.int k))[j]? = some (Value.int k (ds.getD j 0)) := by simp [List.getD, List.getElem?_eq_getElem hjn]
    rw [e] at hj
    exact hj
set_option maxHeartbeats 2000000 in
set_option maxRecDepth 100000 in
theorem wdiv_big {m1 m2 : Value} {x y : Int} {L : Nat} {w : World} (hX : NatAt w m1 x L) (hY : NatAt w m2 y L) (hy : 18446744073709551616 ≤ y) (hxy : y ≤ x) (hL : L ≤ 100000) :
    Calls Try.prog 129 #[m1, m2] w fun e w' => ∃ q r, e = .returned (.tuple #[q, r]) ∧ Ext w w' ∧ NatAt w' q (x / y) L ∧ NatAt w' r (x % y) L ∧ New w q ∧ New w r := by
  obtain ⟨i0, hi0, hz0, hz1, hz2⟩ := info_parts info64
  have HX := Lib.hid hX
  have HY := Lib.hid hY
  obtain ⟨xs0, ⟨a1, c1, rfl, -⟩, -, -, -, lX0⟩ := hX.is
  obtain ⟨ys0, ⟨ay, cy, rfl, g1, g2, g3⟩, dY, nY, ey, lY⟩ := hY.is
  have hl : 2 ≤ ys0.length := by
    have := (val_bd b64_pos ys0 dY).2
    rw [ey] at this
    rcases Nat.lt_or_ge ys0.length 2 with h | h
    · have h1 : B64 ^ ys0.length ≤ B64 ^ 1 := pow_mono' (by decide) (by omega)
      rw [Int.pow_one] at h1
      unfold B64 at *
      omega
    · exact h
  obtain ⟨bY, oY, rfl, hc⟩ := g3 (by intro e; subst e; simp at hl)
  have kt := hc (ys0.length - 1) (by omega)
  have t0 : 0 < ys0.getD (ys0.length - 1) 0 := by
    rcases nY with h | h
    · subst h; simp at hl
    · have := (dY.at (ys0.length - 1) (by omega)).1; omega
  have t1 := (dY.at (ys0.length - 1) (by omega)).2
  unfold B64 at t1
  obtain ⟨s, hs, LZ0⟩ := lz_any t0 t1
  have LZ := Lib.hid LZ0
  have CM := Lib.hid (fun (u : World) p q => wcmp_any (w := u) (m1 := .slice a1 xs0.length c1) (m2 := .slice (some ⟨bY, oY, none⟩) ys0.length cy) (x := x) (y := y) (L := L) p q (by omega))
  have c0 : 0 ≤ cmpI x y := by unfold cmpI; rw [if_neg (by omega)]; split <;> omega
  have K1 : ((ys0.length : Int) == 1) = false := by simp; omega
  have W1 : IntKind.i64.wrap ((ys0.length : Int) - 1) = (ys0.length : Int) - 1 := by rw [IntKind.wrap_i64]; omega
  have K2 : (0 : Int) ≤ (ys0.length : Int) - 1 := by omega
  have K3 : (ys0.length : Int) - 1 < (ys0.length : Int) := by omega
  have K4 : ((ys0.length : Int) - 1).toNat = ys0.length - 1 := by omega
  generalize cmpI x y = cc at CM c0
  have cn : ¬ cc < 0 := by omega
  generalize ys0.getD (ys0.length - 1) 0 = yt at *
  generalize xs0.length = kx at *
  clear hX hY g1 g2 g3 hc dY nY ey LZ0
  go_enter Try.func129, Try.ntmps129
  go_wp2_with fail; refine (CM.out _ (HX.out.ext (by repeat (first | with_reducible exact Ext.refl _ | with_reducible apply Ext.drew | with_reducible apply Ext.drewN | with_reducible apply Ext.alloc | ((with_reducible refine Ext.setCell ?_ ?_ _); rotate_left; focus (first | (simp; done) | (simp; omega) | omega)) | with_reducible refine Ext.tr ?_ x1 | with_reducible refine Ext.tr ?_ x2 | with_reducible refine Ext.tr ?_ x3 | with_reducible refine Ext.tr ?_ x4 | with_reducible refine Ext.tr ?_ x6 | with_reducible refine Ext.tr ?_ x9 | with_reducible refine Ext.tr ?_ hx | with_reducible refine Ext.tr ?_ hext | with_reducible assumption))) (HY.out.ext (by repeat (first | with_reducible exact Ext.refl _ | with_reducible apply Ext.drew | with_reducible apply Ext.drewN | with_reducible apply Ext.alloc | ((with_reducible refine Ext.setCell ?_ ?_ _); rotate_left; focus (first | (simp; done) | (simp; omega) | omega)) | with_reducible refine Ext.tr ?_ x1 | with_reducible refine Ext.tr ?_ x2 | with_reducible refine Ext.tr ?_ x3 | with_reducible refine Ext.tr ?_ x4 | with_reducible refine Ext.tr ?_ x6 | with_reducible refine Ext.tr ?_ x9 | with_reducible refine Ext.tr ?_ hx | with_reducible refine Ext.tr ?_ hext | with_reducible assumption)))).mono ?_; rintro e v1 ⟨rfl, x1⟩; obtain ⟨c1, f1⟩ := x1.rules; have z1 := x1.size
  have kt1 := x1.cell kt
  go_wp2_with fail; refine (LZ.out _).mono ?_; rintro e w' ⟨rfl, rfl⟩
  clear kt kt1
  go_wp2_with fail; refine (wleft_cap (q := 0) (s := s) (HY.out.ext (by repeat (first | with_reducible exact Ext.refl _ | with_reducible apply Ext.drew | with_reducible apply Ext.drewN | with_reducible apply Ext.alloc | ((with_reducible refine Ext.setCell ?_ ?_ _); rotate_left; focus (first | (simp; done) | (simp; omega) | omega)) | with_reducible refine Ext.tr ?_ x1 | with_reducible refine Ext.tr ?_ x2 | with_reducible refine Ext.tr ?_ x3 | with_reducible refine Ext.tr ?_ x4 | with_reducible refine Ext.tr ?_ x6 | with_reducible refine Ext.tr ?_ x9 | with_reducible refine Ext.tr ?_ hx | with_reducible refine Ext.tr ?_ hext | with_reducible assumption))) (by omega) (by omega) hs (by omega)).mono ?_; rintro e v2 ⟨q2, rfl, x2, h2⟩; obtain ⟨c2, f2⟩ := x2.rules; have z2 := x2.size
  obtain ⟨h2, n2, a2, k2, rfl⟩ := h2
  have H2 := Lib.hid h2
  have N2 := Lib.hid n2
  clear h2 n2
  go_wp2_with fail; refine (wleft_cap (q := 0) (s := s) (HX.out.ext (by repeat (first | with_reducible exact Ext.refl _ | with_reducible apply Ext.drew | with_reducible apply Ext.drewN | with_reducible apply Ext.alloc | ((with_reducible refine Ext.setCell ?_ ?_ _); rotate_left; focus (first | (simp; done) | (simp; omega) | omega)) | with_reducible refine Ext.tr ?_ x1 | with_reducible refine Ext.tr ?_ x2 | with_reducible refine Ext.tr ?_ x3 | with_reducible refine Ext.tr ?_ x4 | with_reducible refine Ext.tr ?_ x6 | with_reducible refine Ext.tr ?_ x9 | with_reducible refine Ext.tr ?_ hx | with_reducible refine Ext.tr ?_ hext | with_reducible assumption))) (by omega) (by omega) hs (by omega)).mono ?_; rintro e v3 ⟨q3, rfl, x3, h3⟩; obtain ⟨c3, f3⟩ := x3.rules; have z3 := x3.size
  obtain ⟨h3, n3, a3, k3, rfl⟩ := h3
  have H3 := Lib.hid h3
  have N3 := Lib.hid n3
  clear h3 n3
  go_wp2_with (at_builtin; refine (show Hid _ from ?_).out)
  refine Lib.hid ?_
  have xw3 : Ext w v3 := (by repeat (first | with_reducible exact Ext.refl _ | with_reducible apply Ext.drew | with_reducible apply Ext.drewN | with_reducible apply Ext.alloc | ((with_reducible refine Ext.setCell ?_ ?_ _); rotate_left; focus (first | (simp; done) | (simp; omega) | omega)) | with_reducible refine Ext.tr ?_ x1 | with_reducible refine Ext.tr ?_ x2 | with_reducible refine Ext.tr ?_ x3 | with_reducible refine Ext.tr ?_ x4 | with_reducible refine Ext.tr ?_ x6 | with_reducible refine Ext.tr ?_ x9 | with_reducible refine Ext.tr ?_ hx | with_reducible refine Ext.tr ?_ hext | with_reducible assumption))
  obtain ⟨zs0, r3, dZ, nZ, eZ, lZ⟩ := H3.out.is
  obtain ⟨ao, cap9, e9, hne, hcell⟩ := r3.cells
  cases e9
  have hz1' : zs0 ≠ [] := by
    intro e
    subst e
    have p := pow_pos' (64 * 0 + s)
    have := Int.mul_pos (show 0 < x by omega) p
    rw [← eZ] at this
    simp [val] at this
  have DZ := Lib.hid dZ
  have EZ := Lib.hid eZ
  have HC := Lib.hid hcell
  have HNE := Lib.hid (hne hz1')
  have zp : 0 < zs0.length := List.length_pos_iff.2 hz1'
  clear r3 dZ nZ eZ hne hcell hz1'
  have hn2 : zs0.length + 1 ≤ maxLen := by unfold maxLen; omega
  have hn3 : (zs0.length + 1) * 8 ≤ 140737488355328 := by omega
  refine wpList_append_grows _ rfl _ _ 97 rfl 109 i0 (.int .u64 0) 1 8 Try.underlying97 hi0 hz0 hz1 hz2 rfl (by decide) a3 zs0.length zs0.length (zs0.map (Value.int .u64)) rfl (fun e => absurd e HNE.out) (by simp) (fun b hb j u hj => Lib.cell?_alloc_some _ (HC.out b hb j u hj)) ⟨v3.heap.size, 0, none⟩ 1 1 [.int .u64 0] rfl rfl (news_1 _ _ _) (one_1 _ _) (by omega) hn2 hn3 ?_
  intro v4 w4 hown hg4
  have x4 : Ext v3 w4 := Ext.grown (Ext.alloc (Ext.refl _) _) hg4 (fun r hr => by cases hr)
  have hB3 : v3.heap.size ≤ (v3.alloc (.cells #[.int .u64 0] 109)).heap.size := by simp
  have hown2 : w4.ownsRow v3.heap.size 109 1 v4 (zs0 ++ [0]).length ((zs0 ++ [0]).map (Value.int .u64)) := by
    rw [List.length_append, List.length_singleton, List.map_append]
    refine ⟨hown.1, ?_⟩
    rcases hown.2 with h0 | ⟨g, cap, cur, hv, h1, h2⟩
    · exact .inl h0
    · exact .inr ⟨g, cap, cur, hv, Nat.le_trans hB3 h1, h2⟩
  have HOWN := Lib.hid hown2
  have z4 : v3.heap.size ≤ w4.heap.size := x4.size
  clear hown hg4 hB3 hown2 hn2 hn3 HC HNE
  go_wp2_with fail
  go_loopw [10] (fun lv wr => ∃ (zs : List Int) (lq : Value), lv = lq ∧ wr.ownsRow v3.heap.size 109 1 lq zs.length (zs.map (Value.int .u64)) ∧ Digs B64 zs ∧ val B64 zs = x * 2 ^ (64 * 0 + s) ∧ zs.getD (zs.length - 1) 0 = 0 ∧ zs0.length + 1 ≤ zs.length ∧ zs.length ≤ L + 2 ∧ v3.heap.size ≤ wr.heap.size ∧ Ext v3 wr) (fun lv _ => kx + 1 - lenV lv)
  case atStart =>
    refine ⟨zs0 ++ [0], _, rfl, HOWN.out, DZ.out.snoc (by decide) (by decide), by rw [val_snoc, Int.zero_mul, Int.add_zero]; exact EZ.out, ?_, by simp, by simp; omega, z4, x4⟩
    rw [List.length_append, List.length_singleton, Nat.add_sub_cancel, List.getD_eq_getElem?_getD, List.getElem?_append_right (Nat.le_refl _)]
    simp
  case round =>
    clear HOWN z4 x4
    obtain ⟨zs, lq, rfl, hown, dZs, eZs, tZs, lZs, lZ2, hVw, x4⟩ := hrel
    obtain ⟨al, cl, rfl⟩ := mform hown
    have HDZ := Lib.hid dZs
    have HEZ := Lib.hid eZs
    have HTZ := Lib.hid tZs
    clear dZs eZs tZs
    by_cases hlt : zs.length ≤ kx
    · have hrow := hown.lt
      have hn2 : zs.length + 1 ≤ maxLen := by unfold maxLen; omega
      have hn3 : (zs.length + 1) * 8 ≤ 140737488355328 := by omega
      have hlt' : (zs.length : Int) ≤ (kx : Int) := by omega
      go_wp2_with (at_builtin; refine (show Hid _ from ?_).out)
      refine Lib.hid ?_
      refine wpList_append_own _ rfl _ _ 97 rfl v3.heap.size 109 i0 (.int .u64 0) 1 8 Try.underlying97 hi0 hz0 hz1 hz2 rfl (by decide) _ _ _ rfl (hown.alloc _) ⟨wr.heap.size, 0, none⟩ 1 1 [.int .u64 0] rfl rfl (news_1 _ _ _) (one_1 _ _) hn2 hn3 (by simp; omega) ?_
      intro v5 w5 hown1 hgrow _
      have X : Ext v3 w5 := Ext.grown (x4.alloc _) hgrow (fun r hr => (hrow r hr).1)
      have hVz : v3.heap.size ≤ w5.heap.size := X.size
      have HO := Lib.hid (show w5.ownsRow v3.heap.size 109 1 v5 (zs ++ [0]).length ((zs ++ [0]).map (Value.int .u64)) by rw [List.length_append, List.length_singleton, List.map_append]; exact hown1)
      obtain ⟨a5, c5, rfl⟩ := mform hown1
      clear hown hgrow hown1 hrow hn2 hn3
      go_wp2_with fail
      go_roundw
      case rel =>
        refine ⟨zs ++ [0], _, rfl, HO.out, HDZ.out.snoc (by decide) (by decide), by rw [val_snoc, Int.zero_mul, Int.add_zero]; exact HEZ.out, ?_, by simp; omega, by simp; omega, hVz, X⟩
        rw [List.length_append, List.length_singleton, Nat.add_sub_cancel, List.getD_eq_getElem?_getD, List.getElem?_append_right (Nat.le_refl _)]
        simp
      case measure => simp [lenV]; omega
    · have hlt' : ¬ (zs.length : Int) ≤ (kx : Int) := by omega
      obtain ⟨ys, rY, dY, nY, eY, lY2⟩ := H2.out.is
      obtain ⟨ao2, cap2, e9, hne2, -⟩ := rY.cells
      cases e9
      have ys0 : ys ≠ [] := by
        intro e
        subst e
        have p := pow_pos' (64 * 0 + s)
        have := Int.mul_pos (show 0 < y by omega) p
        rw [← eY] at this
        simp [val] at this
      have hY2 : 0 < val B64 ys := by rw [eY]; exact Int.mul_pos (by omega) (pow_pos' _)
      have htp := val_top b64_pos dY nY ys0
      have hYX : val B64 ys ≤ val B64 zs := by rw [eY, HEZ.out]; exact Int.mul_le_mul_of_nonneg_right hxy (Int.le_of_lt (pow_pos' _))
      have hm1 : 1 ≤ ys.length := List.length_pos_iff.2 ys0
      have hN1 : ys.length + 1 ≤ zs.length := len_more HDZ.out HTZ.out (by omega) hm1 (Int.le_trans htp hYX)
      obtain ⟨n, hn⟩ : ∃ n, ys.length = n + 1 := ⟨ys.length - 1, by omega⟩
      have ht2 : 0 < ys.getD n 0 := by
        rcases nY with h | h
        · exact absurd h ys0
        · have := (dY.at n (by omega)).1
          rw [hn, Nat.add_sub_cancel] at h
          omega
      obtain ⟨T, hT⟩ : ∃ T : Nat, (zs.length : Int) - (ys.length : Int) = (T : Int) := ⟨zs.length - ys.length, by omega⟩
      generalize hN : zs.length = N at *
      have START := Lib.hid (DvL.start (m := ys.length) hN HDZ.out rfl hm1 (by omega) HTZ.out htp)
      rw [show N - ys.length = T by omega] at START
      have HOX := Lib.hid hown
      have RY := Lib.hid (rY.ext x3)
      have DYs := Lib.hid dY
      have HEY := Lib.hid eY
      obtain ⟨bx, cxq, e9, hbx, hbx2⟩ := own_form1 hown (by omega)
      cases e9
      have T0 : 1 ≤ T := by omega
      have hTN : T + (n + 1) = N := by omega
      clear hown rY dY nY eY htp hYX ys0 hne2 hN hlt
      have hT2 : (N : Int) - ((n : Int) + 1) = (T : Int) := by omega
      have wT : IntKind.i64.wrap ((N : Int) - ((n : Int) + 1)) = (T : Int) := by rw [hT2, IntKind.wrap_i64]; omega
      have HT := Lib.hid hT
      clear hT
      rw [hn] at hm1 hN1 ⊢
      go_wp2_with (at_make; refine wpList_make_full _ rfl _ _ 97 rfl wr.heap.size 109 i0 _ 1 Try.underlying97 hi0 hz0 hz1 _ _ _ _ T rfl rfl (by omega) (by omega) (by rw [hz2]; omega) (by unfold maxLen; omega) (Nat.le_refl _) ?_; intro v6 hown6 hgrow6)
      have hq0 : v6.ownsRow wr.heap.size 109 1 (.slice (some ⟨wr.heap.size, 0, none⟩) T T) T ((List.replicate T (0 : Int)).map (Value.int .u64)) := by
        rw [List.map_replicate]; have h := hown6; rw [Nat.mul_one, show (Value.int .u64 0).cells = #[.int .u64 0] from rfl, toList_madeCells_one] at h; exact h
      have x6 : Ext wr v6 := Ext.grown (Ext.refl _) hgrow6 (fun r hr => by cases hr)
      have HQ0 := Lib.hid hq0
      have HOX6 := Lib.hid (x6.owns HOX.out)
      have RY6 := Lib.hid ((RY.out.ext x4).ext x6)
      have OX : Hid (Off bx (.slice a2 ys.length ys.length)) := Lib.hid (fun a' n' c' e _ => by
        obtain ⟨ax, cx, e2, -, -, h3⟩ := RY.out
        obtain ⟨b', o', rfl, hc⟩ := h3 (by intro e; rw [e] at hn; simp at hn)
        cases e2
        cases e
        have h := cell_lt (hc 0 (by omega))
        simp only at h ⊢
        omega)
      have OQ : Hid (Off wr.heap.size (.slice a2 ys.length ys.length)) := Lib.hid (fun a' n' c' e _ => by
        obtain ⟨ax, cx, e2, -, -, h3⟩ := RY.out
        obtain ⟨b', o', rfl, hc⟩ := h3 (by intro e; rw [e] at hn; simp at hn)
        cases e2
        cases e
        have h := cell_lt (hc 0 (by omega))
        simp only at h ⊢
        omega)
      have x36 : Ext v3 v6 := x4.tr x6
      have hcap : N ≤ cl := by
        rcases HOX.out.2 with ⟨h, _⟩ | ⟨g, cap, cur, hv, _, _, h1, _⟩
        · cases h
        · cases hv; exact h1
      clear hown6 hgrow6 hq0 HOX RY x4 x6
      generalize hbq : wr.heap.size = bq at *
      clear hbq
      have STEP := Lib.hid (fun (W : World) (i : Nat) (zs' : List Int) (o : W.ownsRow v3.heap.size 109 1 (.slice (some ⟨bx, 0, none⟩) N cl) N (zs'.map (Value.int .u64))) r d hi hw => step_ref (ox := i) (n := n) o r OX.out d DYs.out hn hi (by omega) ht2 hw)
      go_loopw [11] (fun iv wq => ∃ (j : Nat) (zs' qs : List Int), j ≤ T ∧ iv = .int .i64 ((j : Int) - 1) ∧ DvL (val B64 zs) (val B64 ys) ys.length N j zs' qs ∧ wq.ownsRow v3.heap.size 109 1 (.slice (some ⟨bx, 0, none⟩) N cl) N (zs'.map (Value.int .u64)) ∧ wq.ownsRow bq 109 1 (.slice (some ⟨bq, 0, none⟩) T T) T (qs.map (Value.int .u64)) ∧ Row .u64 wq (.slice a2 ys.length ys.length) ys ∧ Ext v3 wq) (fun iv _ => (intOf iv + 1).toNat)
      case atStart => exact ⟨T, zs, _, Nat.le_refl _, rfl, START.out, HOX6.out, HQ0.out, RY6.out, x36⟩
      case round =>
        clear START HOX6 HQ0 RY6 x36
        obtain ⟨j, zs', qs, hj, rfl, hD, hox, hoq, hry, x36⟩ := hrel
        rcases Nat.eq_zero_or_pos j with hj0 | hj0
        · subst hj0
          obtain ⟨e1, e2⟩ := hD.done hY2
          have p := pow_pos' (64 * 0 + s)
          rw [HEZ.out, HEY.out] at e1 e2
          rw [Int.mul_ediv_mul_of_pos_left _ _ p] at e1
          rw [Int.mul_comm x, Int.mul_comm y, Int.mul_emod_mul_of_pos _ _ p, Int.mul_comm] at e2
          have zlen := hD.len
          have RQ := (Row.of_owns hoq).1
          have RX : Row .u64 wr (.slice (some ⟨bx, 0, none⟩) (n + 1) (n + 1)) (zs'.take (n + 1)) := by
            refine ⟨some ⟨bx, 0, none⟩, n + 1, by rw [List.length_take]; congr 1; omega, by rw [List.length_take]; omega, by unfold maxLen; omega, fun _ => ⟨bx, 0, rfl, fun i hi => ?_⟩⟩
            rw [List.length_take] at hi
            rw [Nat.zero_add, s_at' hox i (by omega), getD_take _ _ _ (by omega)]
          have TQ : Hid (∀ W, Ext wr W → Calls Try.prog 115 #[.slice (some ⟨bq, 0, none⟩) T T] W fun e w' => ∃ v', e = .returned v' ∧ W = w' ∧ Hid (NatAt W v' (x / y) T) ∧ Hid (v'.ownBlock = some bq)) := Lib.hid (fun W xw => (wtrim_new (RQ.ext xw)).mono (by
            rintro e w' ⟨v', k, hc, rfl, hr, rfl, ho⟩
            have h := NatAt.of_cut hr hc hD.qdigs (L := T) (by have := hD.qlen; omega)
            rw [e1] at h
            exact ⟨v', rfl, rfl, Lib.hid h, Lib.hid (by rw [ho]; rfl)⟩))
          have TX : Hid (∀ W, Ext wr W → Calls Try.prog 115 #[.slice (some ⟨bx, 0, none⟩) (n + 1) (n + 1)] W fun e w' => ∃ v', e = .returned v' ∧ W = w' ∧ Hid (NatAt W v' (x % y * 2 ^ (64 * 0 + s)) (n + 1))) := Lib.hid (fun W xw => (wtrim_new (RX.ext xw)).mono (by
            rintro e w' ⟨v', k, hc, rfl, hr, rfl, ho⟩
            have h := NatAt.of_cut hr hc (hD.digs.take (n + 1)) (L := n + 1) (by rw [List.length_take]; omega)
            rw [← hn, e2] at h
            exact ⟨v', rfl, rfl, Lib.hid (by rw [← hn]; exact h)⟩))
          clear e1 e2 hD hox hoq hry RQ RX STEP
          have sx0 : (0 : Int) ≤ (n : Int) + 1 := by omega
          have sx1 : (n : Int) + 1 ≤ (cl : Int) := by omega
          have sx2 : (n : Int) + 1 ≤ (N : Int) := by omega
          have sx3 : (N : Int) ≤ (cl : Int) := by omega
          have LX := Lib.hid (fun (u : Value) W (h : NatAt W u (x % y * 2 ^ (64 * 0 + s)) (n + 1)) => wright_new (n := (s : Int)) (q := 0) (s := s) h (by omega) (by omega) hs (by omega))
          go_wp2_with fail
          go_region_held3 (fun w' => Ext wr w') (first | exact Ext.drew (Ext.refl _) | exact Ext.refl _ | assumption | (refine Ext.tr ?_ x9; assumption) | (refine Ext.tr ?_ x9; exact Ext.drew (Ext.refl _)))
            (first
              | (go_at_call 115; refine (TQ.out _ (by first | assumption | exact Ext.drew (Ext.refl _))).mono ?_; rintro e v8 ⟨q8, rfl, rfl, h8, o8⟩; clear TQ)
              | (go_at_call 115; refine (TX.out _ (by first | assumption | exact Ext.drew (Ext.refl _))).mono ?_; rintro e v8 ⟨r8, rfl, rfl, t8⟩; clear TX)
              | (go_at_call 128; refine (LX.out _ _ t8.out).mono ?_; rintro e v9 ⟨r9, rfl, x9, h9, n9⟩; clear LX))
          all_goals
            go_wp2
            go_ret2
            have xlt := HX.out.lt
            have hq9 : x / y < 2 ^ (64 * L) := Int.lt_of_le_of_lt (Int.ediv_le_self y (by omega)) xlt
            have hr9 : x % y < 2 ^ (64 * L) := by have := Int.emod_lt_of_pos x (show 0 < y by omega); omega
            have h9' := h9
            rw [Int.mul_ediv_cancel _ (by have := pow_pos' (64 * 0 + s); omega)] at h9'
            have xwr := xw3.tr x36
            have xsz := xw3.size
            exact ⟨q8, r9, rfl, xwr.tr ((Ext.drew (Ext.refl _)).tr x9), (h8.out.ext x9).small hq9, h9'.small hr9, fun b hb => by rw [o8.out] at hb; cases hb; omega, fun b hb => Nat.le_trans xwr.size (n9 b hb)⟩
        · obtain ⟨i, rfl⟩ : ∃ i, j = i + 1 := ⟨j - 1, by omega⟩
          rw [show ((i + 1 : Nat) : Int) - 1 = (i : Int) by omega]
          have pre := hD.pre (by omega)
          have wz := (win_bd hD.digs i (ys.length + 1) (by rw [hD.len]; omega)).1
          have ST := Lib.hid (STEP.out wr i zs' hox hry hD.digs (by omega) (by rw [hn] at pre; exact pre))
          rw [hn] at ST
          have NXT := Lib.hid (fun zs2 st => hD.step (zs' := zs2) st rfl hY2 DYs.out (by omega) (Int.ediv_nonneg wz (Int.le_of_lt hY2)) (guess_most hY2 pre))
          have HQ := Lib.hid hoq
          have HRY := Lib.hid hry
          have w1 : IntKind.i64.wrap ((i : Int) + ((n : Int) + 1)) = (i : Int) + ((n : Int) + 1) := by rw [IntKind.wrap_i64]; omega
          have w2 : IntKind.i64.wrap ((i : Int) + ((n : Int) + 1) + 1) = (i : Int) + ((n : Int) + 1) + 1 := by rw [IntKind.wrap_i64]; omega
          have b1 : (i : Int) ≤ (i : Int) + ((n : Int) + 1) + 1 := by omega
          have b2 : (i : Int) + ((n : Int) + 1) + 1 ≤ (cl : Int) := by omega
          have nT : (i : Int) < (T : Int) := by omega
          clear hD hox hoq hry pre wz
          go_wp2_with fail
          rw [show i + (n + 1) + 1 - i = n + 2 by omega]
          refine (ST.out).mono ?_
          rintro e v7 ⟨zs2, rfl, hgb, hox7, hst⟩
          have NX := Lib.hid (NXT.out zs2 hst)
          have hoq7 := own_gb HQ.out hgb (by simp [Value.ownBlock]; omega)
          have hry7 := hgb.row HRY.out OX.out
          have x37 : Ext v3 v7 := Ext.grown x36 hgb (fun r e => by cases e; omega)
          rw [hn] at NX
          obtain ⟨Q, hQ⟩ : ∃ Q, win i (n + 2) zs' / val B64 ys = Q := ⟨_, rfl⟩
          rw [hQ] at NX ⊢
          have cq := s_at' hoq7 i (by omega)
          have fq := hoq7.frozenAt i
          generalize qs.getD i 0 = qd at cq
          have HOX7 := Lib.hid (own_far hox7 (b := bq) (by simp [Value.ownBlock]; omega) i (.int .u64 Q))
          have HOQ7 := Lib.hid (s_set' hoq7 i Q)
          have HRY7 := Lib.hid (((GB.refl v7 bq).set i (.int .u64 Q)).row hry7 OQ.out)
          have X37 := Lib.hid (Ext.setCell x37 (p := ⟨bq, i, none⟩) (by first | (simp; done) | (simp; omega) | omega) (.int .u64 Q))
          clear hst hgb hox7 hoq7 hry7 x37 hQ NXT ST HQ HRY
          go_wp2_with fail
          go_roundw
          case rel => exact ⟨i, zs2, _, by omega, by go_num, by rw [hn]; exact NX.out, HOX7.out, HOQ7.out, HRY7.out, X37.out⟩
          case measure => first | (simp [intOf]; done) | (simp [intOf]; omega)
end Go.Proofs.Ytjmecongccjcgaa
namespace Go.Proofs.Ytjmecongccjcgaa
open Go.RowKit
set_option maxHeartbeats 2000000 in
set_option maxRecDepth 100000 in
theorem wdiv_less {m1 m2 : Value} {x y : Int} {L : Nat} {w : World} (hX : NatAt w m1 x L) (hY : NatAt w m2 y L) (h : x < y) (hL : L ≤ 1000000) :
    Calls Try.prog 129 #[m1, m2] w fun e w' => ∃ q r, e = .returned (.tuple #[q, r]) ∧ Ext w w' ∧ NatAt w' q (x / y) L ∧ NatAt w' r (x % y) L ∧ New w q ∧ New w r := by
  have x0 := hX.nn
  have HX := Lib.hid hX
  have HY := Lib.hid hY
  obtain ⟨a1, k1, c1, rfl, -⟩ := hX.form
  obtain ⟨a2, k2, c2_, rfl, -⟩ := hY.form
  have CM := Lib.hid (fun (u : World) p q => wcmp_any (w := u) (m1 := .slice a1 k1 c1) (m2 := .slice a2 k2 c2_) (x := x) (y := y) (L := L) p q hL)
  rw [cmpI_lt h] at CM
  have E1 := Lib.hid (Int.ediv_eq_zero_of_lt x0 h)
  have E2 := Lib.hid (Int.emod_eq_of_lt x0 h)
  clear h hX hY
  go_enter Try.func129, Try.ntmps129
  go_wp2_with fail; refine (CM.out _ (HX.out.ext (by repeat (first | with_reducible exact Ext.refl _ | with_reducible apply Ext.drew | with_reducible apply Ext.drewN | with_reducible apply Ext.alloc | ((with_reducible refine Ext.setCell ?_ ?_ _); rotate_left; focus (first | (simp; done) | (simp; omega) | omega)) | with_reducible refine Ext.tr ?_ x1 | with_reducible refine Ext.tr ?_ x2 | with_reducible refine Ext.tr ?_ x3 | with_reducible refine Ext.tr ?_ x4 | with_reducible refine Ext.tr ?_ x6 | with_reducible refine Ext.tr ?_ x9 | with_reducible refine Ext.tr ?_ hx | with_reducible refine Ext.tr ?_ hext | with_reducible assumption))) (HY.out.ext (by repeat (first | with_reducible exact Ext.refl _ | with_reducible apply Ext.drew | with_reducible apply Ext.drewN | with_reducible apply Ext.alloc | ((with_reducible refine Ext.setCell ?_ ?_ _); rotate_left; focus (first | (simp; done) | (simp; omega) | omega)) | with_reducible refine Ext.tr ?_ x1 | with_reducible refine Ext.tr ?_ x2 | with_reducible refine Ext.tr ?_ x3 | with_reducible refine Ext.tr ?_ x4 | with_reducible refine Ext.tr ?_ x6 | with_reducible refine Ext.tr ?_ x9 | with_reducible refine Ext.tr ?_ hx | with_reducible refine Ext.tr ?_ hext | with_reducible assumption)))).mono ?_; rintro e v1 ⟨rfl, x1⟩; obtain ⟨c1, f1⟩ := x1.rules; have z1 := x1.size
  go_wp2_with fail; refine (wclone_nat (HX.out.ext (by repeat (first | with_reducible exact Ext.refl _ | with_reducible apply Ext.drew | with_reducible apply Ext.drewN | with_reducible apply Ext.alloc | ((with_reducible refine Ext.setCell ?_ ?_ _); rotate_left; focus (first | (simp; done) | (simp; omega) | omega)) | with_reducible refine Ext.tr ?_ x1 | with_reducible refine Ext.tr ?_ x2 | with_reducible refine Ext.tr ?_ x3 | with_reducible refine Ext.tr ?_ x4 | with_reducible refine Ext.tr ?_ x6 | with_reducible refine Ext.tr ?_ x9 | with_reducible refine Ext.tr ?_ hx | with_reducible refine Ext.tr ?_ hext | with_reducible assumption))) hL).mono ?_; rintro e v2 ⟨q2, rfl, x2, h2⟩; obtain ⟨c2, f2⟩ := x2.rules; have z2 := x2.size
  obtain ⟨h2, n2⟩ := h2
  have H2 := Lib.hid h2
  have N2 := Lib.hid n2
  clear h2 n2
  go_wp2
  go_ret2
  exact ⟨_, _, rfl, (by repeat (first | with_reducible exact Ext.refl _ | with_reducible apply Ext.drew | with_reducible apply Ext.drewN | with_reducible apply Ext.alloc | ((with_reducible refine Ext.setCell ?_ ?_ _); rotate_left; focus (first | (simp; done) | (simp; omega) | omega)) | with_reducible refine Ext.tr ?_ x1 | with_reducible refine Ext.tr ?_ x2 | with_reducible refine Ext.tr ?_ x3 | with_reducible refine Ext.tr ?_ x4 | with_reducible refine Ext.tr ?_ x6 | with_reducible refine Ext.tr ?_ x9 | with_reducible refine Ext.tr ?_ hx | with_reducible refine Ext.tr ?_ hext | with_reducible assumption)), by rw [E1.out]; exact NatAt.zero _ _, by rw [E2.out]; exact H2.out, New.nil _, N2.out.old (by have := x1.size; omega)⟩
theorem wdiv_any {m1 m2 : Value} {x y : Int} {L : Nat} {w : World} (hX : NatAt w m1 x L) (hY : NatAt w m2 y L) (y0 : 0 < y) (hL0 : 1 ≤ L) (hL : L ≤ 100000) :
    Calls Try.prog 129 #[m1, m2] w fun e w' => ∃ q r, e = .returned (.tuple #[q, r]) ∧ Ext w w' ∧ NatAt w' q (x / y) L ∧ NatAt w' r (x % y) L ∧ New w q ∧ New w r := by
  rcases Int.lt_or_le y 18446744073709551616 with h | h
  · exact wdiv_small hX (hY.small (by simpa using h)) y0 hL0 (by omega)
  · rcases Int.lt_or_le x y with h2 | h2
    · exact wdiv_less hX hY h2 (by omega)
    · exact wdiv_big hX hY h h2 hL
end Go.Proofs.Ytjmecongccjcgaa
namespace Go.Proofs.Ytjmecongccjcgaa
open Go.RowKit
attribute [local go_sem ↓] Go.wp_at_zero Go.wp_at_succ
set_option maxHeartbeats 4000000 in
set_option maxRecDepth 100000 in
theorem wDivide_any {u v : Value} {x y : Int} {L : Nat} {w : World} (hu : IntAt w u x L) (hv : IntAt w v y L) (x0 : 0 ≤ x) (y0 : 0 < y) (hL0 : 1 ≤ L) (hL : L ≤ 100000) :
    Calls Try.prog 123 #[u, v] w fun e w' => ∃ q r, e = .returned (.tuple #[q, r]) ∧ Ext w w' ∧ IntAt w' q (x / y) L ∧ IntAt w' r (x % y) L ∧ NewInt w q ∧ NewInt w r := by
  obtain ⟨a1, k1, c1, rfl, m1⟩ := hu.form
  obtain ⟨a2, k2, c2, rfl, m2⟩ := hv.form
  have sx : decide (x < 0) = false := by simp; omega
  have sy : decide (y < 0) = false := by simp; omega
  rw [mag_of x0] at m1
  rw [mag_of (Int.le_of_lt y0)] at m2
  rw [sx, sy]
  have q0 : 0 ≤ x / y := Int.ediv_nonneg x0 (by omega)
  have r0 : 0 ≤ x % y := Int.emod_nonneg x (by omega)
  have M1 := Lib.hid m1
  have M2 := Lib.hid m2
  have SQ := Lib.hid (show false = decide (x / y < 0) by symm; simp; omega)
  have SR := Lib.hid (show false = decide (x % y < 0) by symm; simp; omega)
  have MQ := Lib.hid (mag_of q0)
  have MR := Lib.hid (mag_of r0)
  clear m1 m2 hu hv sx sy q0 r0
  go_enter Try.func123, Try.ntmps123
  go_wp2_with fail; refine (wdiv_any (M1.out.ext (by repeat (first | with_reducible exact Ext.refl _ | with_reducible apply Ext.drew | with_reducible apply Ext.drewN | with_reducible apply Ext.alloc | ((with_reducible refine Ext.setCell ?_ ?_ _); rotate_left; focus (first | (simp; done) | (simp; omega) | omega)) | with_reducible refine Ext.tr ?_ x1 | with_reducible refine Ext.tr ?_ x2 | with_reducible refine Ext.tr ?_ x3 | with_reducible refine Ext.tr ?_ x4 | with_reducible refine Ext.tr ?_ x6 | with_reducible refine Ext.tr ?_ x9 | with_reducible refine Ext.tr ?_ hx | with_reducible refine Ext.tr ?_ hext | with_reducible assumption))) (M2.out.ext (by repeat (first | with_reducible exact Ext.refl _ | with_reducible apply Ext.drew | with_reducible apply Ext.drewN | with_reducible apply Ext.alloc | ((with_reducible refine Ext.setCell ?_ ?_ _); rotate_left; focus (first | (simp; done) | (simp; omega) | omega)) | with_reducible refine Ext.tr ?_ x1 | with_reducible refine Ext.tr ?_ x2 | with_reducible refine Ext.tr ?_ x3 | with_reducible refine Ext.tr ?_ x4 | with_reducible refine Ext.tr ?_ x6 | with_reducible refine Ext.tr ?_ x9 | with_reducible refine Ext.tr ?_ hx | with_reducible refine Ext.tr ?_ hext | with_reducible assumption))) y0 hL0 hL).mono ?_; rintro e v1 ⟨q1, r1, rfl, x1, h1, hr1, n1, n2⟩; obtain ⟨c1, f1⟩ := x1.rules; have z1 := x1.size; have k1_0_0 := c1 (w.heap.size) 0 (by first | (simp; done) | (simp; omega) | omega); have q1_0_0 := f1 (w.heap.size) 0 (by first | (simp; done) | (simp; omega) | omega); have k1_0_1 := c1 (w.heap.size) 1 (by first | (simp; done) | (simp; omega) | omega); have q1_0_1 := f1 (w.heap.size) 1 (by first | (simp; done) | (simp; omega) | omega); have k1_1_0 := c1 (w.heap.size + 1) 0 (by first | (simp; done) | (simp; omega) | omega); have q1_1_0 := f1 (w.heap.size + 1) 0 (by first | (simp; done) | (simp; omega) | omega); have k1_1_1 := c1 (w.heap.size + 1) 1 (by first | (simp; done) | (simp; omega) | omega); have q1_1_1 := f1 (w.heap.size + 1) 1 (by first | (simp; done) | (simp; omega) | omega); have k1_2_0 := c1 (w.heap.size + 2) 0 (by first | (simp; done) | (simp; omega) | omega); have q1_2_0 := f1 (w.heap.size + 2) 0 (by first | (simp; done) | (simp; omega) | omega); have k1_2_1 := c1 (w.heap.size + 2) 1 (by first | (simp; done) | (simp; omega) | omega); have q1_2_1 := f1 (w.heap.size + 2) 1 (by first | (simp; done) | (simp; omega) | omega); have k1_3_0 := c1 (w.heap.size + 3) 0 (by first | (simp; done) | (simp; omega) | omega); have q1_3_0 := f1 (w.heap.size + 3) 0 (by first | (simp; done) | (simp; omega) | omega); have k1_3_1 := c1 (w.heap.size + 3) 1 (by first | (simp; done) | (simp; omega) | omega); have q1_3_1 := f1 (w.heap.size + 3) 1 (by first | (simp; done) | (simp; omega) | omega); have z1_0 : w.heap.size < v1.heap.size := (by (try simp at z1); omega); have z1_1 : w.heap.size + 1 < v1.heap.size := (by (try simp at z1); omega); have z1_2 : w.heap.size + 2 < v1.heap.size := (by (try simp at z1); omega); have z1_3 : w.heap.size + 3 < v1.heap.size := (by (try simp at z1); omega); (try simp at z1); clear c1 f1; simp [go_sem, *] at k1_0_0 q1_0_0 k1_0_1 q1_0_1 k1_1_0 q1_1_0 k1_1_1 q1_1_1 k1_2_0 q1_2_0 k1_2_1 q1_2_1 k1_3_0 q1_3_0 k1_3_1 q1_3_1
  have H1 := Lib.hid h1
  have N1 := Lib.hid n1
  have H2 := Lib.hid hr1
  have N2 := Lib.hid n2
  obtain ⟨a3, k3, c3, rfl, -⟩ := h1.form
  obtain ⟨a4, k4, c4, rfl, -⟩ := hr1.form
  have OA := Lib.hid (fun u => wOf_raw false H1.out u)
  have OB := Lib.hid (fun u => wOf_raw false H2.out u)
  simp only [Bool.false_and] at OA OB
  clear h1 hr1 n1 n2
  go_wp2_with fail
  go_cut [] (fun wx => wx.cell? ⟨w.heap.size, 0, none⟩ = some (.bool false) ∧ wx.cell? ⟨w.heap.size + 1, 0, none⟩ = some (.bool false) ∧ wx.cell? ⟨w.heap.size + 1 + 1, 0, none⟩ = some (.bool false) ∧ wx.cell? ⟨w.heap.size + 1 + 1, 1, none⟩ = some (.slice a3 k3 c3) ∧ wx.cell? ⟨w.heap.size + 1 + 1 + 1, 0, none⟩ = some (.bool false) ∧ wx.cell? ⟨w.heap.size + 1 + 1 + 1, 1, none⟩ = some (.slice a4 k4 c4) ∧ wx.frozen? ⟨w.heap.size + 1 + 1, 0, none⟩ = false ∧ wx.frozen? ⟨w.heap.size + 1 + 1, 1, none⟩ = false ∧ wx.frozen? ⟨w.heap.size + 1 + 1 + 1, 0, none⟩ = false ∧ wx.frozen? ⟨w.heap.size + 1 + 1 + 1, 1, none⟩ = false ∧ NatAt wx (.slice a3 k3 c3) (mag (x / y)) L ∧ NatAt wx (.slice a4 k4 c4) (mag (x % y)) L ∧ w.heap.size + 3 < wx.heap.size ∧ Ext w wx)
  case first =>
    go_region_held3 (fun w' => w'.cell? ⟨w.heap.size, 0, none⟩ = some (.bool false) ∧ w'.cell? ⟨w.heap.size + 1, 0, none⟩ = some (.bool false) ∧ w.heap.size + 3 < w'.heap.size ∧ Ext w w')
      (refine ⟨?_, ?_, ?_, ?_⟩ <;> first | (simp [go_sem, *]; done) | omega | (simp at z1; omega) | (simp at z2; omega) | (simp at z3; omega) | (simp at z4; omega) | exact (by repeat (first | with_reducible exact Ext.refl _ | with_reducible apply Ext.drew | with_reducible apply Ext.drewN | with_reducible apply Ext.alloc | ((with_reducible refine Ext.setCell ?_ ?_ _); rotate_left; focus (first | (simp; done) | (simp; omega) | omega)) | with_reducible refine Ext.tr ?_ x1 | with_reducible refine Ext.tr ?_ x2 | with_reducible refine Ext.tr ?_ x3 | with_reducible refine Ext.tr ?_ x4 | with_reducible refine Ext.tr ?_ x6 | with_reducible refine Ext.tr ?_ x9 | with_reducible refine Ext.tr ?_ hx | with_reducible refine Ext.tr ?_ hext | with_reducible assumption)))
      (first
        | ((go_at_call 100; refine (OA.out _).mono ?_; rintro e v2 ⟨rfl, x2⟩; obtain ⟨c2, f2⟩ := x2.rules; have z2 := x2.size; have k2_0_0 := c2 (w.heap.size) 0 (by first | (simp; done) | (simp; omega) | omega); have q2_0_0 := f2 (w.heap.size) 0 (by first | (simp; done) | (simp; omega) | omega); have k2_0_1 := c2 (w.heap.size) 1 (by first | (simp; done) | (simp; omega) | omega); have q2_0_1 := f2 (w.heap.size) 1 (by first | (simp; done) | (simp; omega) | omega); have k2_1_0 := c2 (w.heap.size + 1) 0 (by first | (simp; done) | (simp; omega) | omega); have q2_1_0 := f2 (w.heap.size + 1) 0 (by first | (simp; done) | (simp; omega) | omega); have k2_1_1 := c2 (w.heap.size + 1) 1 (by first | (simp; done) | (simp; omega) | omega); have q2_1_1 := f2 (w.heap.size + 1) 1 (by first | (simp; done) | (simp; omega) | omega); have k2_2_0 := c2 (w.heap.size + 2) 0 (by first | (simp; done) | (simp; omega) | omega); have q2_2_0 := f2 (w.heap.size + 2) 0 (by first | (simp; done) | (simp; omega) | omega); have k2_2_1 := c2 (w.heap.size + 2) 1 (by first | (simp; done) | (simp; omega) | omega); have q2_2_1 := f2 (w.heap.size + 2) 1 (by first | (simp; done) | (simp; omega) | omega); have k2_3_0 := c2 (w.heap.size + 3) 0 (by first | (simp; done) | (simp; omega) | omega); have q2_3_0 := f2 (w.heap.size + 3) 0 (by first | (simp; done) | (simp; omega) | omega); have k2_3_1 := c2 (w.heap.size + 3) 1 (by first | (simp; done) | (simp; omega) | omega); have q2_3_1 := f2 (w.heap.size + 3) 1 (by first | (simp; done) | (simp; omega) | omega); have z2_0 : w.heap.size < v2.heap.size := (by (try simp at z2); omega); have z2_1 : w.heap.size + 1 < v2.heap.size := (by (try simp at z2); omega); have z2_2 : w.heap.size + 2 < v2.heap.size := (by (try simp at z2); omega); have z2_3 : w.heap.size + 3 < v2.heap.size := (by (try simp at z2); omega); (try simp at z2); clear c2 f2; simp [go_sem, *] at k2_0_0 q2_0_0 k2_0_1 q2_0_1 k2_1_0 q2_1_0 k2_1_1 q2_1_1 k2_2_0 q2_2_0 k2_2_1 q2_2_1 k2_3_0 q2_3_0 k2_3_1 q2_3_1); clear OA)
        | ((go_at_call 100; refine (OB.out _).mono ?_; rintro e v3 ⟨rfl, x3⟩; obtain ⟨c3, f3⟩ := x3.rules; have z3 := x3.size; have k3_0_0 := c3 (w.heap.size) 0 (by first | (simp; done) | (simp; omega) | omega); have q3_0_0 := f3 (w.heap.size) 0 (by first | (simp; done) | (simp; omega) | omega); have k3_0_1 := c3 (w.heap.size) 1 (by first | (simp; done) | (simp; omega) | omega); have q3_0_1 := f3 (w.heap.size) 1 (by first | (simp; done) | (simp; omega) | omega); have k3_1_0 := c3 (w.heap.size + 1) 0 (by first | (simp; done) | (simp; omega) | omega); have q3_1_0 := f3 (w.heap.size + 1) 0 (by first | (simp; done) | (simp; omega) | omega); have k3_1_1 := c3 (w.heap.size + 1) 1 (by first | (simp; done) | (simp; omega) | omega); have q3_1_1 := f3 (w.heap.size + 1) 1 (by first | (simp; done) | (simp; omega) | omega); have k3_2_0 := c3 (w.heap.size + 2) 0 (by first | (simp; done) | (simp; omega) | omega); have q3_2_0 := f3 (w.heap.size + 2) 0 (by first | (simp; done) | (simp; omega) | omega); have k3_2_1 := c3 (w.heap.size + 2) 1 (by first | (simp; done) | (simp; omega) | omega); have q3_2_1 := f3 (w.heap.size + 2) 1 (by first | (simp; done) | (simp; omega) | omega); have k3_3_0 := c3 (w.heap.size + 3) 0 (by first | (simp; done) | (simp; omega) | omega); have q3_3_0 := f3 (w.heap.size + 3) 0 (by first | (simp; done) | (simp; omega) | omega); have k3_3_1 := c3 (w.heap.size + 3) 1 (by first | (simp; done) | (simp; omega) | omega); have q3_3_1 := f3 (w.heap.size + 3) 1 (by first | (simp; done) | (simp; omega) | omega); have z3_0 : w.heap.size < v3.heap.size := (by (try simp at z3); omega); have z3_1 : w.heap.size + 1 < v3.heap.size := (by (try simp at z3); omega); have z3_2 : w.heap.size + 2 < v3.heap.size := (by (try simp at z3); omega); have z3_3 : w.heap.size + 3 < v3.heap.size := (by (try simp at z3); omega); (try simp at z3); clear c3 f3; simp [go_sem, *] at k3_0_0 q3_0_0 k3_0_1 q3_0_1 k3_1_0 q3_1_0 k3_1_1 q3_1_1 k3_2_0 q3_2_0 k3_2_1 q3_2_1 k3_3_0 q3_3_0 k3_3_1 q3_3_1); clear OB))
    all_goals
      have O2 := Lib.hid (N1.out.off (g := w.heap.size + 1 + 1) (by simp))
      have O3 := Lib.hid (N1.out.off (g := w.heap.size + 1 + 1 + 1) (by simp))
      have P2 := Lib.hid (N2.out.off (g := w.heap.size + 1 + 1) (by simp))
      have P3 := Lib.hid (N2.out.off (g := w.heap.size + 1 + 1 + 1) (by simp))
      have HQ := Lib.hid (show NatAt v1 (.slice a3 k3 c3) (mag (x / y)) L by rw [MQ.out]; exact H1.out)
      have HR := Lib.hid (show NatAt v1 (.slice a4 k4 c4) (mag (x % y)) L by rw [MR.out]; exact H2.out)
      go_wp2_with fail
      go_meet
      exact ⟨by simp [go_sem, *], by simp [go_sem, *], by simp [go_sem, *], by simp [go_sem, *], by simp [go_sem, *], by simp [go_sem, *], by simp [go_sem, *], by simp [go_sem, *], by simp [go_sem, *], by simp [go_sem, *], (by repeat (first | with_reducible exact HQ.out | with_reducible refine NatAt.alloc' ?_ | with_reducible refine NatAt.drew' ?_ | with_reducible refine NatAt.drewN' ?_ | with_reducible refine NatAt.off ?_ O2.out | with_reducible refine NatAt.off ?_ O3.out | with_reducible refine NatAt.ext ?_ x1 | with_reducible refine NatAt.ext ?_ x2 | with_reducible refine NatAt.ext ?_ x3 | with_reducible refine NatAt.ext ?_ x4 | with_reducible refine NatAt.ext ?_ x6 | with_reducible refine NatAt.ext ?_ x9 | with_reducible refine NatAt.ext ?_ hx | with_reducible refine NatAt.ext ?_ hext)), (by repeat (first | with_reducible exact HR.out | with_reducible refine NatAt.alloc' ?_ | with_reducible refine NatAt.drew' ?_ | with_reducible refine NatAt.drewN' ?_ | with_reducible refine NatAt.off ?_ P2.out | with_reducible refine NatAt.off ?_ P3.out | with_reducible refine NatAt.ext ?_ x1 | with_reducible refine NatAt.ext ?_ x2 | with_reducible refine NatAt.ext ?_ x3 | with_reducible refine NatAt.ext ?_ x4 | with_reducible refine NatAt.ext ?_ x6 | with_reducible refine NatAt.ext ?_ x9 | with_reducible refine NatAt.ext ?_ hx | with_reducible refine NatAt.ext ?_ hext)), by (first | (simp; done) | (simp; omega) | omega), (by repeat (first | with_reducible exact Ext.refl _ | with_reducible apply Ext.drew | with_reducible apply Ext.drewN | with_reducible apply Ext.alloc | ((with_reducible refine Ext.setCell ?_ ?_ _); rotate_left; focus (first | (simp; done) | (simp; omega) | omega)) | with_reducible refine Ext.tr ?_ x1 | with_reducible refine Ext.tr ?_ x2 | with_reducible refine Ext.tr ?_ x3 | with_reducible refine Ext.tr ?_ x4 | with_reducible refine Ext.tr ?_ x6 | with_reducible refine Ext.tr ?_ x9 | with_reducible refine Ext.tr ?_ hx | with_reducible refine Ext.tr ?_ hext | with_reducible assumption))⟩
  case rest =>
    obtain ⟨t0, t1, t2, t3, t4, t5, t6, t7, t8, t9, hq, hr, tz, hext⟩ := hcut
    have O2 := Lib.hid (N1.out.off (g := w.heap.size + 1 + 1) (by simp))
    have O3 := Lib.hid (N1.out.off (g := w.heap.size + 1 + 1 + 1) (by simp))
    have P2 := Lib.hid (N2.out.off (g := w.heap.size + 1 + 1) (by simp))
    have P3 := Lib.hid (N2.out.off (g := w.heap.size + 1 + 1 + 1) (by simp))
    have HQ := Lib.hid hq
    have HR := Lib.hid hr
    clear hq hr OA OB
    rcases Nat.eq_zero_or_pos k4 with hk | hk
    · have kk : (k4 : Int) = 0 := by omega
      clear hk
      go_wp2_with fail
      go_region
      go_wp2
      simp [bodyPost, results, Try.results123, go_sem, *]
      exact ⟨_, _, ⟨rfl, rfl⟩, (by repeat (first | with_reducible exact Ext.refl _ | with_reducible apply Ext.drew | with_reducible apply Ext.drewN | with_reducible apply Ext.alloc | ((with_reducible refine Ext.setCell ?_ ?_ _); rotate_left; focus (first | (simp; done) | (simp; omega) | omega)) | with_reducible refine Ext.tr ?_ x1 | with_reducible refine Ext.tr ?_ x2 | with_reducible refine Ext.tr ?_ x3 | with_reducible refine Ext.tr ?_ x4 | with_reducible refine Ext.tr ?_ x6 | with_reducible refine Ext.tr ?_ x9 | with_reducible refine Ext.tr ?_ hx | with_reducible refine Ext.tr ?_ hext | with_reducible assumption)), IntAt.of SQ.out (by repeat (first | with_reducible exact HQ.out | with_reducible refine NatAt.alloc' ?_ | with_reducible refine NatAt.drew' ?_ | with_reducible refine NatAt.drewN' ?_ | with_reducible refine NatAt.off ?_ O2.out | with_reducible refine NatAt.off ?_ O3.out | with_reducible refine NatAt.ext ?_ x1 | with_reducible refine NatAt.ext ?_ x2 | with_reducible refine NatAt.ext ?_ x3 | with_reducible refine NatAt.ext ?_ x4 | with_reducible refine NatAt.ext ?_ x6 | with_reducible refine NatAt.ext ?_ x9 | with_reducible refine NatAt.ext ?_ hx | with_reducible refine NatAt.ext ?_ hext)), IntAt.of SR.out (by repeat (first | with_reducible exact HR.out | with_reducible refine NatAt.alloc' ?_ | with_reducible refine NatAt.drew' ?_ | with_reducible refine NatAt.drewN' ?_ | with_reducible refine NatAt.off ?_ P2.out | with_reducible refine NatAt.off ?_ P3.out | with_reducible refine NatAt.ext ?_ x1 | with_reducible refine NatAt.ext ?_ x2 | with_reducible refine NatAt.ext ?_ x3 | with_reducible refine NatAt.ext ?_ x4 | with_reducible refine NatAt.ext ?_ x6 | with_reducible refine NatAt.ext ?_ x9 | with_reducible refine NatAt.ext ?_ hx | with_reducible refine NatAt.ext ?_ hext)), NewInt.mk (N1.out.old (by first | (simp; done) | (simp; omega) | omega)), NewInt.mk (N2.out.old (by first | (simp; done) | (simp; omega) | omega))⟩
    · have kk : (0 : Int) < (k4 : Int) := by omega
      clear hk
      go_wp2_with fail
      go_region
      go_wp2
      simp [bodyPost, results, Try.results123, go_sem, *]
      exact ⟨_, _, ⟨rfl, rfl⟩, (by repeat (first | with_reducible exact Ext.refl _ | with_reducible apply Ext.drew | with_reducible apply Ext.drewN | with_reducible apply Ext.alloc | ((with_reducible refine Ext.setCell ?_ ?_ _); rotate_left; focus (first | (simp; done) | (simp; omega) | omega)) | with_reducible refine Ext.tr ?_ x1 | with_reducible refine Ext.tr ?_ x2 | with_reducible refine Ext.tr ?_ x3 | with_reducible refine Ext.tr ?_ x4 | with_reducible refine Ext.tr ?_ x6 | with_reducible refine Ext.tr ?_ x9 | with_reducible refine Ext.tr ?_ hx | with_reducible refine Ext.tr ?_ hext | with_reducible assumption)), IntAt.of SQ.out (by repeat (first | with_reducible exact HQ.out | with_reducible refine NatAt.alloc' ?_ | with_reducible refine NatAt.drew' ?_ | with_reducible refine NatAt.drewN' ?_ | with_reducible refine NatAt.off ?_ O2.out | with_reducible refine NatAt.off ?_ O3.out | with_reducible refine NatAt.ext ?_ x1 | with_reducible refine NatAt.ext ?_ x2 | with_reducible refine NatAt.ext ?_ x3 | with_reducible refine NatAt.ext ?_ x4 | with_reducible refine NatAt.ext ?_ x6 | with_reducible refine NatAt.ext ?_ x9 | with_reducible refine NatAt.ext ?_ hx | with_reducible refine NatAt.ext ?_ hext)), IntAt.of SR.out (by repeat (first | with_reducible exact HR.out | with_reducible refine NatAt.alloc' ?_ | with_reducible refine NatAt.drew' ?_ | with_reducible refine NatAt.drewN' ?_ | with_reducible refine NatAt.off ?_ P2.out | with_reducible refine NatAt.off ?_ P3.out | with_reducible refine NatAt.ext ?_ x1 | with_reducible refine NatAt.ext ?_ x2 | with_reducible refine NatAt.ext ?_ x3 | with_reducible refine NatAt.ext ?_ x4 | with_reducible refine NatAt.ext ?_ x6 | with_reducible refine NatAt.ext ?_ x9 | with_reducible refine NatAt.ext ?_ hx | with_reducible refine NatAt.ext ?_ hext)), NewInt.mk (N1.out.old (by first | (simp; done) | (simp; omega) | omega)), NewInt.mk (N2.out.old (by first | (simp; done) | (simp; omega) | omega))⟩
set_option maxHeartbeats 1000000 in
theorem wDown_any {u v : Value} {x y : Int} {L : Nat} {w : World} (hu : IntAt w u x L) (hv : IntAt w v y L) (x0 : 0 ≤ x) (y0 : 0 < y) (hL0 : 1 ≤ L) (hL : L ≤ 100000) :
    Calls Try.prog 108 #[u, v] w fun e w' => ∃ q, e = .returned q ∧ Ext w w' ∧ IntAt w' q (x / y) L ∧ NewInt w q := by
  have HU := Lib.hid hu
  have HV := Lib.hid hv
  obtain ⟨a1, k1, c1, rfl, -⟩ := hu.form
  obtain ⟨a2, k2, c2, rfl, -⟩ := hv.form
  clear hu hv
  go_enter Try.func108, Try.ntmps108
  go_wp2_with fail; refine (wDivide_any (HU.out.ext (by repeat (first | with_reducible exact Ext.refl _ | with_reducible apply Ext.drew | with_reducible apply Ext.drewN | with_reducible apply Ext.alloc | ((with_reducible refine Ext.setCell ?_ ?_ _); rotate_left; focus (first | (simp; done) | (simp; omega) | omega)) | with_reducible refine Ext.tr ?_ x1 | with_reducible refine Ext.tr ?_ x2 | with_reducible refine Ext.tr ?_ x3 | with_reducible refine Ext.tr ?_ x4 | with_reducible refine Ext.tr ?_ x6 | with_reducible refine Ext.tr ?_ x9 | with_reducible refine Ext.tr ?_ hx | with_reducible refine Ext.tr ?_ hext | with_reducible assumption))) (HV.out.ext (by repeat (first | with_reducible exact Ext.refl _ | with_reducible apply Ext.drew | with_reducible apply Ext.drewN | with_reducible apply Ext.alloc | ((with_reducible refine Ext.setCell ?_ ?_ _); rotate_left; focus (first | (simp; done) | (simp; omega) | omega)) | with_reducible refine Ext.tr ?_ x1 | with_reducible refine Ext.tr ?_ x2 | with_reducible refine Ext.tr ?_ x3 | with_reducible refine Ext.tr ?_ x4 | with_reducible refine Ext.tr ?_ x6 | with_reducible refine Ext.tr ?_ x9 | with_reducible refine Ext.tr ?_ hx | with_reducible refine Ext.tr ?_ hext | with_reducible assumption))) x0 y0 hL0 hL).mono ?_; rintro e v1 ⟨q1, r1, rfl, x1, h1, hr1, n1, n2⟩; obtain ⟨c1, f1⟩ := x1.rules; have z1 := x1.size; have k1_0_0 := c1 (w.heap.size) 0 (by first | (simp; done) | (simp; omega) | omega); have q1_0_0 := f1 (w.heap.size) 0 (by first | (simp; done) | (simp; omega) | omega); have k1_0_1 := c1 (w.heap.size) 1 (by first | (simp; done) | (simp; omega) | omega); have q1_0_1 := f1 (w.heap.size) 1 (by first | (simp; done) | (simp; omega) | omega); have k1_1_0 := c1 (w.heap.size + 1) 0 (by first | (simp; done) | (simp; omega) | omega); have q1_1_0 := f1 (w.heap.size + 1) 0 (by first | (simp; done) | (simp; omega) | omega); have k1_1_1 := c1 (w.heap.size + 1) 1 (by first | (simp; done) | (simp; omega) | omega); have q1_1_1 := f1 (w.heap.size + 1) 1 (by first | (simp; done) | (simp; omega) | omega); have k1_2_0 := c1 (w.heap.size + 2) 0 (by first | (simp; done) | (simp; omega) | omega); have q1_2_0 := f1 (w.heap.size + 2) 0 (by first | (simp; done) | (simp; omega) | omega); have k1_2_1 := c1 (w.heap.size + 2) 1 (by first | (simp; done) | (simp; omega) | omega); have q1_2_1 := f1 (w.heap.size + 2) 1 (by first | (simp; done) | (simp; omega) | omega); have z1_0 : w.heap.size < v1.heap.size := (by (try simp at z1); omega); have z1_1 : w.heap.size + 1 < v1.heap.size := (by (try simp at z1); omega); have z1_2 : w.heap.size + 2 < v1.heap.size := (by (try simp at z1); omega); (try simp at z1); clear c1 f1; simp [go_sem, *] at k1_0_0 q1_0_0 k1_0_1 q1_0_1 k1_1_0 q1_1_0 k1_1_1 q1_1_1 k1_2_0 q1_2_0 k1_2_1 q1_2_1
  obtain ⟨a3, k3, c3, rfl, hq⟩ := h1.form
  obtain ⟨a4, k4, c4, rfl, -⟩ := hr1.form
  have HQ := Lib.hid hq
  have N1 := Lib.hid (n1 _ _ rfl)
  have O2 := Lib.hid (N1.out.off (g := w.heap.size + 1 + 1) (by simp))
  clear h1 hr1 n1 n2 hq
  go_wp2
  simp [bodyPost, results, Try.results108, go_sem, *]
  exact ⟨(by repeat (first | with_reducible exact Ext.refl _ | with_reducible apply Ext.drew | with_reducible apply Ext.drewN | with_reducible apply Ext.alloc | ((with_reducible refine Ext.setCell ?_ ?_ _); rotate_left; focus (first | (simp; done) | (simp; omega) | omega)) | with_reducible refine Ext.tr ?_ x1 | with_reducible refine Ext.tr ?_ x2 | with_reducible refine Ext.tr ?_ x3 | with_reducible refine Ext.tr ?_ x4 | with_reducible refine Ext.tr ?_ x6 | with_reducible refine Ext.tr ?_ x9 | with_reducible refine Ext.tr ?_ hx | with_reducible refine Ext.tr ?_ hext | with_reducible assumption)), IntAt.of rfl (by repeat (first | with_reducible exact HQ.out | with_reducible refine NatAt.alloc' ?_ | with_reducible refine NatAt.drew' ?_ | with_reducible refine NatAt.drewN' ?_ | with_reducible refine NatAt.off ?_ O2.out | with_reducible refine NatAt.ext ?_ x1 | with_reducible refine NatAt.ext ?_ x2 | with_reducible refine NatAt.ext ?_ x3 | with_reducible refine NatAt.ext ?_ x4 | with_reducible refine NatAt.ext ?_ x6 | with_reducible refine NatAt.ext ?_ x9 | with_reducible refine NatAt.ext ?_ hx | with_reducible refine NatAt.ext ?_ hext)), NewInt.mk (N1.out.old (by first | (simp; done) | (simp; omega) | omega))⟩
end Go.Proofs.Ytjmecongccjcgaa
