/- ref90: short. -/
import Derived.Test.YtielcbpjnjdlmaaDown2
namespace Go.Proofs.Ytielcbpjnjdlmaa
open Go.RowKit
structure ShRel (xs : List Int) (d : Int) (k : Nat) (r : Int) (zs : List Int) : Prop where
  len : zs.length = xs.length
  digs : Digs B32 zs
  r0 : 0 ≤ r
  r1 : r < d
  is : val B32 (xs.drop k) = d * val B32 (zs.drop k) + r
theorem drop_cons_getD (ds : List Int) (j : Nat) (h : j < ds.length) : ds.drop j = ds.getD j 0 :: ds.drop (j + 1) := by
  rw [List.drop_eq_getElem_cons h, List.getD_eq_getElem?_getD, List.getElem?_eq_getElem h]; rfl
theorem ShRel.step {xs zs : List Int} {d r : Int} {k j : Nat} (h : ShRel xs d k r zs) (hj : j + 1 = k) (hk : k ≤ xs.length) (hx : Digs B32 xs) (hd : 0 < d) (hd1 : d ≤ 4294967296) :
    ShRel xs d j ((r * 4294967296 + xs.getD j 0) % d) (zs.set j ((r * 4294967296 + xs.getD j 0) / d)) ∧ 0 ≤ (r * 4294967296 + xs.getD j 0) / d ∧ (r * 4294967296 + xs.getD j 0) / d < 4294967296 := by
  obtain ⟨x0, x1⟩ := getD_bd hx j
  have r0 := h.r0
  have r1 := h.r1
  have b0 := Int.ediv_nonneg (show 0 ≤ r * 4294967296 + xs.getD j 0 by omega) (Int.le_of_lt hd)
  have b1 : (r * 4294967296 + xs.getD j 0) / d < 4294967296 := by
    apply Int.ediv_lt_of_lt_mul hd
    have := Int.mul_le_mul_of_nonneg_right (show r + 1 ≤ d by omega) (show (0 : Int) ≤ 4294967296 by omega)
    rw [Int.mul_comm 4294967296]; omega
  refine ⟨⟨by simp [h.len], h.digs.set _ b0 (by unfold B32; omega), Int.emod_nonneg _ (by omega), Int.emod_lt_of_pos _ hd, ?_⟩, b0, b1⟩
  have e1 : (zs.set j ((r * 4294967296 + xs.getD j 0) / d)).drop j = ((r * 4294967296 + xs.getD j 0) / d) :: zs.drop (j + 1) := by
    rw [drop_cons_getD _ j (by rw [List.length_set, h.len]; omega), getD_set_same _ _ _ (by rw [h.len]; omega), List.drop_set_of_lt (by omega)]
  have e := h.is
  rw [e1, drop_cons_getD xs j (by omega), hj]
  simp only [val]
  rw [e]
  have e2 := Int.mul_ediv_add_emod (r * 4294967296 + xs.getD j 0) d
  generalize (r * 4294967296 + xs.getD j 0) / d = q at *
  generalize (r * 4294967296 + xs.getD j 0) % d = m at *
  generalize xs.getD j 0 = x at *
  rw [Int.mul_add, Int.mul_add d q, Int.mul_left_comm]
  unfold B32
  omega
theorem or_lo (a b : Int) (a0 : 0 ≤ a) (a1 : a < 4294967296) (b0 : 0 ≤ b) (b1 : b < 4294967296) : bits .or .u64 (a * 4294967296) b = a * 4294967296 + b :=
  or_disj (a * 4294967296) b 32 (by omega) b0 (by omega) (by omega) (by omega) (by omega)
set_option maxHeartbeats 2000000 in
set_option maxRecDepth 100000 in
theorem short_any {m : Value} {x d : Int} {L : Nat} {w : World} (hX : HalfAt w m x L) (hL : L ≤ 2000000) (hd : 0 < d) (hd1 : d < 4294967296) :
    Calls Try.prog 150 #[m, .int .u32 d] w fun e w' => ∃ v, e = .returned (.tuple #[v, .int .u32 (x % d)]) ∧ Ext w w' ∧ HalfAt w' v (x / d) L := by
  obtain ⟨i0, hi0, hz0, hz1, hz2⟩ := info_parts info32
  obtain ⟨xs, ⟨ax, capx, rfl, hx2⟩, dX, nX, rfl, lX⟩ := hX.is
  have rx' : Row .u32 w (.slice ax xs.length capx) xs := ⟨ax, capx, rfl, hx2⟩
  have RX := Lib.hid rx'
  clear hX rx' hx2 nX
  go_enter Try.func150, Try.ntmps150
  go_wp2_with (at_make; refine wpList_make_full _ rfl _ _ 199 rfl w.heap.size 201 i0 _ 1 Try.underlying199 hi0 hz0 hz1 _ _ _ _ xs.length rfl rfl (by omega) (by omega) (by rw [hz2]; omega) (by unfold maxLen; omega) (Nat.le_refl _) ?_; intro v3 hown0 hgrow0)
  have hownA : v3.ownsRow w.heap.size 201 1 (.slice (some ⟨w.heap.size, 0, none⟩) xs.length xs.length) xs.length ((List.replicate xs.length (0 : Int)).map (Value.int .u32)) := by
    rw [List.map_replicate]; have h := hown0; rw [Nat.mul_one, show (Value.int .u32 0).cells = #[.int .u32 0] from rfl, toList_madeCells_one] at h; exact h
  have xA : Ext w v3 := Ext.grown (Ext.refl _) hgrow0 (fun r hr => by cases hr)
  have HA := Lib.hid hownA
  clear hown0 hgrow0 hownA
  go_loopw [7, 8] (fun rv iv wr => ∃ (k : Nat) (r : Int) (zs : List Int), k ≤ xs.length ∧ iv = .int .i64 ((k : Int) - 1) ∧ rv = .int .u64 r ∧ ShRel xs d k r zs ∧ wr.ownsRow w.heap.size 201 1 (.slice (some ⟨w.heap.size, 0, none⟩) xs.length xs.length) xs.length (zs.map (Value.int .u32)) ∧ Ext w wr) (fun _ iv _ => (intOf iv + 1).toNat)
  case atStart =>
    refine ⟨xs.length, 0, List.replicate xs.length 0, Nat.le_refl _, rfl, rfl, ⟨by simp, fun d hd => ?_, by omega, hd, ?_⟩, HA.out, xA⟩
    · have := List.eq_of_mem_replicate hd; subst this; exact ⟨Int.le_refl _, by decide⟩
    · rw [List.drop_length, List.drop_of_length_le (by simp)]; simp [val]
  case round =>
    obtain ⟨k, r, zs, hk, rfl, rfl, hS, hown, hext⟩ := hrel
    rcases Nat.eq_zero_or_pos k with hk0 | hk0
    · subst hk0
      have hs := hS.is
      rw [List.drop_zero, List.drop_zero] at hs
      have r0 := hS.r0
      have r1 := hS.r1
      have e1 : val B32 xs / d = val B32 zs := by rw [hs, Int.add_comm, Int.add_mul_ediv_left _ _ (by omega), Int.ediv_eq_zero_of_lt r0 r1, Int.zero_add]
      have e2 : val B32 xs % d = r := by rw [hs, Int.add_comm, Int.add_mul_emod_self_left, Int.emod_eq_of_lt r0 r1]
      have HR := Lib.hid (Row.of_owns hown).1
      have HD := Lib.hid hS.digs
      have HLn : Hid (zs.length ≤ L) := Lib.hid (by rw [hS.len]; exact lX)
      have E1 := Lib.hid e1
      have E2 := Lib.hid e2
      clear hS hs e1 e2 hown
      go_wp2_with fail
      refine (cut_any HR.out).mono ?_
      rintro e w' ⟨v4, n3, hcut, rfl, hrow3, rfl⟩
      have H : Hid (HalfAt wr v4 (val B32 xs / d) L) := Lib.hid ⟨⟨zs.take n3, hrow3, HD.out.take _, hcut.neat, by rw [hcut.val, E1.out], by rw [List.length_take]; have := HLn.out; omega⟩⟩
      clear hcut hrow3
      go_wp2
      go_ret2
      exact ⟨_, by rw [E2.out]; rfl, hext, H.out⟩
    · obtain ⟨ST, q0, q1⟩ := hS.step (j := k - 1) (by omega) hk dX hd (by omega)
      have HST := Lib.hid ST
      obtain ⟨bx, ox, rfl, cx1⟩ := RX.out.cellAt (k - 1) (by omega)
      have cx := hext.cell cx1
      have r0 := hS.r0
      have r1 := hS.r1
      obtain ⟨x0, x1⟩ := getD_bd dX (k - 1)
      have en : ((k - 1 : Nat) : Int) = (k : Int) - 1 := by omega
      have nx : (k : Int) - 1 < (xs.length : Int) := by omega
      have cz := owns_at hown (k - 1) (by omega)
      have fz := hown.frozenAt (k - 1)
      have HW := Lib.hid hown
      have ho := or_lo r (xs.getD (k - 1) 0) r0 (by omega) x0 x1
      have hr1 : r < 4294967296 := by omega
      clear cx1 hS hown ST
      generalize xs.getD (k - 1) 0 = xd at *
      generalize zs.getD (k - 1) 0 = zd at *
      have ht0 : 0 ≤ r * 4294967296 + xd := by omega
      have ht1 : r * 4294967296 + xd < 18446744073709551616 := by omega
      generalize r * 4294967296 + xd = t at *
      have hq : t.tdiv d = t / d := Int.tdiv_eq_ediv_of_nonneg ht0
      have hm : t.tmod d = t % d := Int.tmod_eq_emod_of_nonneg ht0
      have m0 : 0 ≤ t % d := Int.emod_nonneg _ (by omega)
      have m1 : t % d < d := Int.emod_lt_of_pos _ hd
      have hdn : d ≠ 0 := by omega
      go_wp2_with fail
      exact ⟨⟨k - 1, _, _, by omega, by rw [en], rfl, HST.out, own_set HW.out _ _, (by repeat (first | with_reducible exact Ext.refl _ | with_reducible apply Ext.drew | with_reducible apply Ext.drewN | with_reducible apply Ext.alloc | ((with_reducible refine Ext.setCell ?_ ?_ _); rotate_left; focus (first | (simp; done) | (simp; omega) | omega)) | with_reducible refine Ext.tr ?_ x1 | with_reducible refine Ext.tr ?_ x2 | with_reducible refine Ext.tr ?_ x3 | with_reducible refine Ext.tr ?_ x4 | with_reducible refine Ext.tr ?_ x5 | with_reducible refine Ext.tr ?_ x6 | with_reducible refine Ext.tr ?_ x7 | with_reducible refine Ext.tr ?_ x8 | with_reducible refine Ext.tr ?_ x9 | with_reducible refine Ext.tr ?_ xa | with_reducible refine Ext.tr ?_ xb | with_reducible refine Ext.tr ?_ xc | with_reducible refine Ext.tr ?_ xd | with_reducible refine Ext.tr ?_ xe | with_reducible refine Ext.tr ?_ xf | with_reducible refine Ext.tr ?_ xg | with_reducible refine Ext.tr ?_ hx | with_reducible refine Ext.tr ?_ hext | with_reducible assumption))⟩, by simp [intOf]; omega⟩
end Go.Proofs.Ytielcbpjnjdlmaa
