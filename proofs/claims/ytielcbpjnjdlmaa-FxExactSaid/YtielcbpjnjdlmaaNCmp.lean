/- ref90: NOf, NCmp. -/
import Derived.Test.YtielcbpjnjdlmaaNTimes
namespace Go.Proofs.Ytielcbpjnjdlmaa
open Go.RowKit
theorem NatAt.nn {w : World} {v : Value} {x : Int} {L : Nat} (h : NatAt w v x L) : 0 ≤ x := by
  obtain ⟨ds, h1, h2, h3, rfl, h5⟩ := h.is; exact (val_bd (by decide) ds h2).1
theorem NatAt.of_cut {w : World} {v : Value} {ds : List Int} {n L : Nat} (hr : Row .u64 w v (ds.take n)) (hc : Cut ds n) (hd : Digs B64 ds) (hl : ds.length ≤ L) : NatAt w v (val B64 ds) L :=
  ⟨⟨ds.take n, hr, hd.take n, hc.neat, hc.val _, by rw [List.length_take]; omega⟩⟩
theorem NOf_new (n : Int) (w : World) (h0 : 0 ≤ n) (h1 : n < 18446744073709551616) :
    Calls Try.prog 52 #[.int .u64 n] w fun e w' => ∃ v, e = .returned v ∧ Ext w w' ∧ NatAt w' v n 1 ∧ New w v := by
  have hr : Row .u64 (w.alloc (.cells #[.int .u64 n] 24)) (.slice (some ⟨w.heap.size, 0, none⟩) 1 1) [n] := by
    refine ⟨_, 1, rfl, Nat.le_refl _, by unfold maxLen; omega, fun _ => ⟨_, 0, rfl, fun i hi => ?_⟩⟩
    obtain rfl : i = 0 := by simpa using hi
    simp
  have HC := Lib.hid (trim_new hr)
  clear hr
  go_enter Try.func52, Try.ntmps52
  go_wp2_with fail
  refine HC.out.mono ?_
  rintro e w' ⟨v3, n3, hcut, rfl, hrow3, rfl, hob⟩
  have HN : Hid (New w v3) := Lib.hid (fun b hb => by rw [hob] at hb; simp [Value.ownBlock] at hb; omega)
  have h := NatAt.of_cut hrow3 hcut (L := 1) (fun d hd => by simp at hd; subst hd; exact ⟨h0, h1⟩) (by simp)
  rw [show val B64 [n] = n by simp [val]] at h
  have H := Lib.hid h
  clear h hrow3 hcut hob
  go_wp2
  go_ret
  exact ⟨_, rfl, (by repeat (first | with_reducible exact Ext.refl _ | with_reducible apply Ext.drew | with_reducible apply Ext.drewN | with_reducible apply Ext.alloc | ((with_reducible refine Ext.setCell ?_ ?_ _); rotate_left; focus (first | (simp; done) | (simp; omega) | omega)) | with_reducible refine Ext.tr ?_ x1 | with_reducible refine Ext.tr ?_ x2 | with_reducible refine Ext.tr ?_ x3 | with_reducible refine Ext.tr ?_ x4 | with_reducible refine Ext.tr ?_ x5 | with_reducible refine Ext.tr ?_ x6 | with_reducible refine Ext.tr ?_ x7 | with_reducible refine Ext.tr ?_ x8 | with_reducible refine Ext.tr ?_ x9 | with_reducible refine Ext.tr ?_ xa | with_reducible refine Ext.tr ?_ xb | with_reducible refine Ext.tr ?_ xc | with_reducible refine Ext.tr ?_ xd | with_reducible refine Ext.tr ?_ xe | with_reducible refine Ext.tr ?_ xf | with_reducible refine Ext.tr ?_ xg | with_reducible refine Ext.tr ?_ hx | with_reducible refine Ext.tr ?_ hext | with_reducible assumption)), H.out, HN.out⟩
theorem NOf_any (n : Int) (w : World) (h0 : 0 ≤ n) (h1 : n < 18446744073709551616) :
    Calls Try.prog 52 #[.int .u64 n] w fun e w' => ∃ v, e = .returned v ∧ Ext w w' ∧ NatAt w' v n 1 :=
  (NOf_new n w h0 h1).mono (by rintro e w' ⟨v', h1, h2, h3, -⟩; exact ⟨v', h1, h2, h3⟩)
/-- -1, 0, 1. -/
def cmpI (x y : Int) : Int := if x < y then -1 else if y < x then 1 else 0
theorem cmpI_lt {x y : Int} (h : x < y) : cmpI x y = -1 := by unfold cmpI; rw [if_pos h]
theorem cmpI_gt {x y : Int} (h : y < x) : cmpI x y = 1 := by unfold cmpI; rw [if_neg (by omega), if_pos h]
theorem cmpI_eq (x : Int) : cmpI x x = 0 := by unfold cmpI; rw [if_neg (by omega), if_neg (by omega)]
theorem val_split (B : Int) : ∀ (ds : List Int) (j : Nat), j ≤ ds.length → val B ds = val B (ds.take j) + B ^ j * val B (ds.drop j)
  | ds, 0, _ => by simp [val]
  | [], j + 1, h => by simp at h
  | d :: ds, j + 1, h => by
    simp only [List.take_succ_cons, List.drop_succ_cons, val]
    rw [val_split B ds j (by simpa using h), Int.pow_succ, Int.mul_add, Int.mul_comm (B ^ j) B, Int.mul_assoc, Int.add_assoc]
theorem val_lt {B : Int} (hB : 0 < B) {xs ys : List Int} (hx : Digs B xs) (hy : Digs B ys) (hl : xs.length = ys.length) (j : Nat) (hj : j < xs.length)
    (he : ∀ i, j + 1 ≤ i → i < xs.length → xs.getD i 0 = ys.getD i 0) (h : xs.getD j 0 < ys.getD j 0) : val B xs < val B ys := by
  have hd : xs.drop (j + 1) = ys.drop (j + 1) := by
    apply List.ext_getElem (by simp [hl])
    intro i h1 h2
    have := he (j + 1 + i) (by omega) (by simp at h1; omega)
    simp at h1 h2
    rw [List.getD_eq_getElem?_getD, List.getD_eq_getElem?_getD, List.getElem?_eq_getElem (by omega), List.getElem?_eq_getElem (by omega)] at this
    simpa using this
  rw [val_split B xs (j + 1) (by omega), val_split B ys (j + 1) (by omega), hd, val_take_succ, val_take_succ]
  obtain ⟨a0, a1⟩ := val_bd hB (xs.take j) (hx.take j)
  obtain ⟨b0, b1⟩ := val_bd hB (ys.take j) (hy.take j)
  rw [List.length_take, Nat.min_eq_left (by omega)] at a1
  have h3 : (0 : Int) < B ^ j := Int.pow_pos hB
  have h4 := Int.mul_le_mul_of_nonneg_right (show xs.getD j 0 + 1 ≤ ys.getD j 0 by omega) (Int.le_of_lt h3)
  rw [Int.add_mul, Int.one_mul] at h4
  omega
theorem val_len_lt {B : Int} (hB : 0 < B) {xs ys : List Int} (hx : Digs B xs) (hy : Digs B ys) (ny : Neat ys) (h : xs.length < ys.length) : val B xs < val B ys := by
  rcases Int.lt_or_le (val B xs) (val B ys) with h' | h'
  · exact h'
  · have := len_le hB hx hy ny h'; omega
theorem ext_getD {xs ys : List Int} (hl : xs.length = ys.length) (h : ∀ j, j < xs.length → xs.getD j 0 = ys.getD j 0) : xs = ys := by
  apply List.ext_getElem hl
  intro i h1 h2
  have := h i h1
  rw [List.getD_eq_getElem?_getD, List.getD_eq_getElem?_getD, List.getElem?_eq_getElem h1, List.getElem?_eq_getElem h2] at this
  simpa using this
set_option maxHeartbeats 1000000 in
set_option maxRecDepth 100000 in
theorem NCmp_any {m1 m2 : Value} {x y : Int} {L : Nat} {w : World} (hX : NatAt w m1 x L) (hY : NatAt w m2 y L) (hL : L ≤ 1000000) :
    Calls Try.prog 145 #[m1, m2] w fun e w' => e = .returned (.int .i64 (cmpI x y)) ∧ Ext w w' := by
  obtain ⟨xs, ⟨ax, capx, rfl, hx2⟩, dX, nX, rfl, lX⟩ := hX.is
  obtain ⟨ys, ⟨ay, capy, rfl, hy2⟩, dY, nY, rfl, lY⟩ := hY.is
  have rx' : Row .u64 w (.slice ax xs.length capx) xs := ⟨ax, capx, rfl, hx2⟩
  have RX := Lib.hid rx'
  have ry' : Row .u64 w (.slice ay ys.length capy) ys := ⟨ay, capy, rfl, hy2⟩
  have RY := Lib.hid ry'
  clear rx' ry' hx2 hy2 hX hY
  rcases Nat.lt_trichotomy xs.length ys.length with h | h | h
  · have c := cmpI_lt (val_len_lt (by decide) dX dY nY h)
    have HC := Lib.hid c
    have n1 : ((xs.length : Int) == (ys.length : Int)) = false := by rw [beq_eq_false_iff_ne]; omega
    clear c
    go_enter Try.func145, Try.ntmps145
    go_wp2
    go_ret
    exact ⟨by rw [HC.out]; rfl, (by repeat (first | with_reducible exact Ext.refl _ | with_reducible apply Ext.drew | with_reducible apply Ext.drewN | with_reducible apply Ext.alloc | ((with_reducible refine Ext.setCell ?_ ?_ _); rotate_left; focus (first | (simp; done) | (simp; omega) | omega)) | with_reducible refine Ext.tr ?_ x1 | with_reducible refine Ext.tr ?_ x2 | with_reducible refine Ext.tr ?_ x3 | with_reducible refine Ext.tr ?_ x4 | with_reducible refine Ext.tr ?_ x5 | with_reducible refine Ext.tr ?_ x6 | with_reducible refine Ext.tr ?_ x7 | with_reducible refine Ext.tr ?_ x8 | with_reducible refine Ext.tr ?_ x9 | with_reducible refine Ext.tr ?_ xa | with_reducible refine Ext.tr ?_ xb | with_reducible refine Ext.tr ?_ xc | with_reducible refine Ext.tr ?_ xd | with_reducible refine Ext.tr ?_ xe | with_reducible refine Ext.tr ?_ xf | with_reducible refine Ext.tr ?_ xg | with_reducible refine Ext.tr ?_ hx | with_reducible refine Ext.tr ?_ hext | with_reducible assumption))⟩
  · go_enter Try.func145, Try.ntmps145
    go_wp2_with fail
    go_loopw [5] (fun iv wr => ∃ k : Nat, k ≤ xs.length ∧ iv = .int .i64 ((k : Int) - 1) ∧ (∀ j, k ≤ j → j < xs.length → xs.getD j 0 = ys.getD j 0) ∧ Ext w wr) (fun iv _ => (intOf iv + 1).toNat)
    case atStart => exact ⟨xs.length, Nat.le_refl _, by rw [h], fun j h1 h2 => by omega, Ext.refl _⟩
    case round =>
      obtain ⟨k, hk, rfl, hs, hext⟩ := hrel
      have HS := Lib.hid hs
      have HH := Lib.hid h
      clear hs
      rcases Nat.eq_zero_or_pos k with hk0 | hk0
      · subst hk0
        have c : cmpI (val B64 xs) (val B64 ys) = 0 := by rw [ext_getD h (fun j hj => HS.out j (Nat.zero_le _) hj)]; exact cmpI_eq _
        have HC := Lib.hid c
        clear c h
        go_wp2
        go_ret
        exact ⟨by rw [HC.out]; rfl, hext⟩
      · obtain ⟨bx, ox, rfl, cx1⟩ := RX.out.cellAt (k - 1) (by omega)
        have cx := hext.cell cx1
        obtain ⟨by', oy, rfl, cy1⟩ := RY.out.cellAt (k - 1) (by omega)
        have cy := hext.cell cy1
        have en : ((k - 1 : Nat) : Int) = (k : Int) - 1 := by omega
        have nx : (k : Int) - 1 < (xs.length : Int) := by omega
        have ny : (k : Int) - 1 < (ys.length : Int) := by omega
        have e1 : ∀ i, k - 1 + 1 ≤ i → i < xs.length → xs.getD i 0 = ys.getD i 0 := fun i h1 h2 => HS.out i (by omega) h2
        clear cx1 cy1
        rcases Int.lt_trichotomy (xs.getD (k - 1) 0) (ys.getD (k - 1) 0) with hd | hd | hd
        · have HC := Lib.hid (cmpI_lt (val_lt (by decide) dX dY h (k - 1) (by omega) e1 hd))
          clear e1 h
          generalize xs.getD (k - 1) 0 = xd at *
          generalize ys.getD (k - 1) 0 = yd at *
          go_wp2_with fail
          go_quiet (fail)
          go_wp2
          go_ret
          exact ⟨by rw [HC.out]; rfl, (by repeat (first | with_reducible exact Ext.refl _ | with_reducible apply Ext.drew | with_reducible apply Ext.drewN | with_reducible apply Ext.alloc | ((with_reducible refine Ext.setCell ?_ ?_ _); rotate_left; focus (first | (simp; done) | (simp; omega) | omega)) | with_reducible refine Ext.tr ?_ x1 | with_reducible refine Ext.tr ?_ x2 | with_reducible refine Ext.tr ?_ x3 | with_reducible refine Ext.tr ?_ x4 | with_reducible refine Ext.tr ?_ x5 | with_reducible refine Ext.tr ?_ x6 | with_reducible refine Ext.tr ?_ x7 | with_reducible refine Ext.tr ?_ x8 | with_reducible refine Ext.tr ?_ x9 | with_reducible refine Ext.tr ?_ xa | with_reducible refine Ext.tr ?_ xb | with_reducible refine Ext.tr ?_ xc | with_reducible refine Ext.tr ?_ xd | with_reducible refine Ext.tr ?_ xe | with_reducible refine Ext.tr ?_ xf | with_reducible refine Ext.tr ?_ xg | with_reducible refine Ext.tr ?_ hx | with_reducible refine Ext.tr ?_ hext | with_reducible assumption))⟩
        · have HD := Lib.hid hd
          rw [hd] at cx
          clear e1 h hd
          generalize ys.getD (k - 1) 0 = yd at cx cy
          go_wp2_with fail
          go_quiet (fail)
          go_wp2_with fail
          go_quiet (fail)
          go_wp2_with fail
          refine ⟨⟨k - 1, by omega, by rw [en], fun j h1 h2 => ?_, (by repeat (first | with_reducible exact Ext.refl _ | with_reducible apply Ext.drew | with_reducible apply Ext.drewN | with_reducible apply Ext.alloc | ((with_reducible refine Ext.setCell ?_ ?_ _); rotate_left; focus (first | (simp; done) | (simp; omega) | omega)) | with_reducible refine Ext.tr ?_ x1 | with_reducible refine Ext.tr ?_ x2 | with_reducible refine Ext.tr ?_ x3 | with_reducible refine Ext.tr ?_ x4 | with_reducible refine Ext.tr ?_ x5 | with_reducible refine Ext.tr ?_ x6 | with_reducible refine Ext.tr ?_ x7 | with_reducible refine Ext.tr ?_ x8 | with_reducible refine Ext.tr ?_ x9 | with_reducible refine Ext.tr ?_ xa | with_reducible refine Ext.tr ?_ xb | with_reducible refine Ext.tr ?_ xc | with_reducible refine Ext.tr ?_ xd | with_reducible refine Ext.tr ?_ xe | with_reducible refine Ext.tr ?_ xf | with_reducible refine Ext.tr ?_ xg | with_reducible refine Ext.tr ?_ hx | with_reducible refine Ext.tr ?_ hext | with_reducible assumption))⟩, by simp [intOf]; omega⟩
          rcases Nat.lt_or_ge j k with h3 | h3
          · rw [show j = k - 1 by omega]; exact HD.out
          · exact HS.out j h3 h2
        · have HC := Lib.hid (cmpI_gt (val_lt (by decide) dY dX h.symm (k - 1) (by omega) (fun i h1 h2 => (e1 i h1 (by omega)).symm) hd))
          clear e1 h
          generalize xs.getD (k - 1) 0 = xd at *
          generalize ys.getD (k - 1) 0 = yd at *
          have hnd : ¬ xd < yd := by omega
          go_wp2_with fail
          go_quiet (fail)
          go_wp2_with fail
          go_quiet (fail)
          go_wp2
          go_ret
          exact ⟨by rw [HC.out]; rfl, (by repeat (first | with_reducible exact Ext.refl _ | with_reducible apply Ext.drew | with_reducible apply Ext.drewN | with_reducible apply Ext.alloc | ((with_reducible refine Ext.setCell ?_ ?_ _); rotate_left; focus (first | (simp; done) | (simp; omega) | omega)) | with_reducible refine Ext.tr ?_ x1 | with_reducible refine Ext.tr ?_ x2 | with_reducible refine Ext.tr ?_ x3 | with_reducible refine Ext.tr ?_ x4 | with_reducible refine Ext.tr ?_ x5 | with_reducible refine Ext.tr ?_ x6 | with_reducible refine Ext.tr ?_ x7 | with_reducible refine Ext.tr ?_ x8 | with_reducible refine Ext.tr ?_ x9 | with_reducible refine Ext.tr ?_ xa | with_reducible refine Ext.tr ?_ xb | with_reducible refine Ext.tr ?_ xc | with_reducible refine Ext.tr ?_ xd | with_reducible refine Ext.tr ?_ xe | with_reducible refine Ext.tr ?_ xf | with_reducible refine Ext.tr ?_ xg | with_reducible refine Ext.tr ?_ hx | with_reducible refine Ext.tr ?_ hext | with_reducible assumption))⟩
  · have c := cmpI_gt (val_len_lt (by decide) dY dX nX h)
    have HC := Lib.hid c
    have n1 : ((xs.length : Int) == (ys.length : Int)) = false := by rw [beq_eq_false_iff_ne]; omega
    clear c
    go_enter Try.func145, Try.ntmps145
    go_wp2
    go_ret
    exact ⟨by rw [HC.out]; rfl, (by repeat (first | with_reducible exact Ext.refl _ | with_reducible apply Ext.drew | with_reducible apply Ext.drewN | with_reducible apply Ext.alloc | ((with_reducible refine Ext.setCell ?_ ?_ _); rotate_left; focus (first | (simp; done) | (simp; omega) | omega)) | with_reducible refine Ext.tr ?_ x1 | with_reducible refine Ext.tr ?_ x2 | with_reducible refine Ext.tr ?_ x3 | with_reducible refine Ext.tr ?_ x4 | with_reducible refine Ext.tr ?_ x5 | with_reducible refine Ext.tr ?_ x6 | with_reducible refine Ext.tr ?_ x7 | with_reducible refine Ext.tr ?_ x8 | with_reducible refine Ext.tr ?_ x9 | with_reducible refine Ext.tr ?_ xa | with_reducible refine Ext.tr ?_ xb | with_reducible refine Ext.tr ?_ xc | with_reducible refine Ext.tr ?_ xd | with_reducible refine Ext.tr ?_ xe | with_reducible refine Ext.tr ?_ xf | with_reducible refine Ext.tr ?_ xg | with_reducible refine Ext.tr ?_ hx | with_reducible refine Ext.tr ?_ hext | with_reducible assumption))⟩
end Go.Proofs.Ytielcbpjnjdlmaa
