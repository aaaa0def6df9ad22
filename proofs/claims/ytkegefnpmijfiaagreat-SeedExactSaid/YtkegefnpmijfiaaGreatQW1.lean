/- whole: trim, cmp. whole: add. whole: word, Of, From, One, Zero, Even, Small, Cmp. whole: left, Left, Power. -/
import Derived.Test.YtkegefnpmijfiaaGreatQInts2
import Derived.Test.YtkegefnpmijfiaaGreatQNats
import Derived.Test.YtkegefnpmijfiaaGreatQNat2
import Derived.Deep.DeepCutAuto
import Derived.BigRegion
namespace Go.Proofs.YtkegefnpmijfiaaGreat
open Go.RowKit
theorem wtrim_walk (b o cap : Nat) (ds : List Int) (w : World) (h1 : ds.length ≤ cap) (h2 : cap ≤ maxLen)
    (hc : ∀ i, i < ds.length → w.cell? ⟨b, o + i, none⟩ = some (.int .u64 (ds.getD i 0))) :
    Calls Tryz.prog 235 #[.slice (some ⟨b, o, none⟩) ds.length cap] w fun e w' => ∃ n, Cut ds n ∧ e = .returned (.slice (some ⟨b, o, none⟩) n n) ∧ w = w' := by
  unfold maxLen at h2
  go_enter Tryz.func235, Tryz.ntmps235
  go_wp2_with fail
  go_loop [3] (fun i => ∃ n : Nat, n ≤ ds.length ∧ i = .int .i64 n ∧ ∀ i, n ≤ i → i < ds.length → ds.getD i 0 = 0) (fun i => (intOf i).toNat)
  case atStart => exact ⟨ds.length, Nat.le_refl _, rfl, fun i h h' => by omega⟩
  case round =>
    obtain ⟨n, hn, rfl, hz⟩ := hrel
    have HZ := Lib.hid hz
    clear hz
    rcases Nat.eq_zero_or_pos n with h | h
    · subst h
      go_wp2
      go_ret
      exact ⟨0, ⟨Nat.zero_le _, HZ.out, .inl rfl⟩, rfl, rfl⟩
    · have hcell := hc (n - 1) (by omega)
      have en : ((n - 1 : Nat) : Int) = (n : Int) - 1 := by omega
      by_cases hd : ds.getD (n - 1) 0 = 0
      · rw [hd] at hcell
        have HD := Lib.hid hd
        clear hd
        go_wp2_with fail
        refine ⟨⟨n - 1, by omega, by go_num, fun i h3 h4 => ?_⟩, by simp [intOf]; omega⟩
        rcases Nat.lt_or_ge i n with h5 | h5
        · rw [show i = n - 1 by omega]; exact HD.out
        · exact HZ.out i h5 h4
      · have HD := Lib.hid hd
        have hb : (ds.getD (n - 1) 0 == 0) = false := by rw [beq_eq_false_iff_ne]; exact hd
        generalize hx : ds.getD (n - 1) 0 = x at hcell hb
        clear hd hx
        go_wp2
        go_ret
        exact ⟨n, ⟨hn, HZ.out, .inr HD.out⟩, rfl, rfl⟩
theorem wtrim_empty (a : Option Addr) (cap : Nat) (w : World) :
    Calls Tryz.prog 235 #[.slice a 0 cap] w fun e w' => e = .returned (.slice a 0 0) ∧ w = w' := by
  go_enter Tryz.func235, Tryz.ntmps235
  go_wp2_with fail
  refine wp_loop_rounds 1 ?_
  rw [rounds_succ]
  go_wp2
  go_ret
  exact ⟨rfl, rfl⟩
theorem Row.cap {k : IntKind} {w : World} {a : Option Addr} {n cap cap' : Nat} {ds : List Int} (h : Row k w (.slice a n cap) ds) (h1 : n ≤ cap') (h2 : cap' ≤ maxLen) : Row k w (.slice a n cap') ds := by
  obtain ⟨a', c', e, g1, g2, g3⟩ := h
  simp only [Value.slice.injEq] at e
  obtain ⟨rfl, rfl, rfl⟩ := e
  exact ⟨a, cap', rfl, h1, h2, g3⟩
theorem wtrim_cap {v : Value} {ds : List Int} {w : World} (h : Row .u64 w v ds) :
    Calls Tryz.prog 235 #[v] w fun e w' => ∃ v' n, Cut ds n ∧ e = .returned v' ∧ Row .u64 w v' (ds.take n) ∧ w = w' ∧ v'.ownBlock = v.ownBlock ∧ ∃ a m, v' = .slice a m m := by
  obtain ⟨a, cap, rfl, h1, h2, h3⟩ := h
  by_cases hn : ds = []
  · subst hn
    refine (wtrim_empty a cap w).mono ?_
    rintro e w' ⟨rfl, rfl⟩
    exact ⟨_, 0, ⟨Nat.le_refl _, fun i _ h => by simp at h, .inl rfl⟩, rfl, ⟨a, 0, rfl, Nat.le_refl _, Nat.zero_le _, fun h => absurd rfl h⟩, rfl, by cases a <;> rfl, _, _, rfl⟩
  · obtain ⟨b, o, rfl, hc⟩ := h3 hn
    refine (wtrim_walk b o cap ds w h1 h2 hc).mono ?_
    rintro e w' ⟨n, hcut, rfl, rfl⟩
    exact ⟨_, n, hcut, rfl, (Row.take h1 h2 hcut.le hc).cap (Nat.le_refl _) (Nat.le_trans hcut.le (Nat.le_trans h1 h2)), rfl, rfl, _, _, rfl⟩
theorem wtrim_new {v : Value} {ds : List Int} {w : World} (h : Row .u64 w v ds) :
    Calls Tryz.prog 235 #[v] w fun e w' => ∃ v' n, Cut ds n ∧ e = .returned v' ∧ Row .u64 w v' (ds.take n) ∧ w = w' ∧ v'.ownBlock = v.ownBlock :=
  (wtrim_cap h).mono (by rintro e w' ⟨v', n, a, b, c, d, f, -⟩; exact ⟨v', n, a, b, c, d, f⟩)
set_option maxHeartbeats 1000000 in
set_option maxRecDepth 100000 in
theorem wcmp_any {m1 m2 : Value} {x y : Int} {L : Nat} {w : World} (hX : NatAt w m1 x L) (hY : NatAt w m2 y L) (hL : L ≤ 1000000) :
    Calls Tryz.prog 225 #[m1, m2] w fun e w' => e = .returned (.int .i64 (cmpI x y)) ∧ Ext w w' := by
  obtain ⟨xs, ⟨ax, capx, rfl, hx2⟩, dX, nX, rfl, lX⟩ := hX.is
  obtain ⟨ys, ⟨ay, capy, rfl, hy2⟩, dY, nY, rfl, lY⟩ := hY.is
  have rx' : Row .u64 w (.slice ax xs.length capx) xs := ⟨ax, capx, rfl, hx2⟩
  have RX := Lib.hid rx'
  have ry' : Row .u64 w (.slice ay ys.length capy) ys := ⟨ay, capy, rfl, hy2⟩
  have RY := Lib.hid ry'
  clear rx' ry' hx2 hy2 hX hY
  rcases Nat.lt_trichotomy xs.length ys.length with h | h | h
  · have c := cmpI_lt (val_len_lt (by decide) dX dY nY h)
    have HC := Lib.hid c
    have n1 : ((xs.length : Int) == (ys.length : Int)) = false := by rw [beq_eq_false_iff_ne]; omega
    clear c
    go_enter Tryz.func225, Tryz.ntmps225
    go_wp2
    go_ret
    exact ⟨by rw [HC.out]; rfl, Ext.q⟩
  · go_enter Tryz.func225, Tryz.ntmps225
    go_wp2_with fail
    go_loopw [5] (fun iv wr => ∃ k : Nat, k ≤ xs.length ∧ iv = .int .i64 ((k : Int) - 1) ∧ (∀ j, k ≤ j → j < xs.length → xs.getD j 0 = ys.getD j 0) ∧ Ext w wr) (fun iv _ => (intOf iv + 1).toNat)
    case atStart => exact ⟨xs.length, Nat.le_refl _, by rw [h], fun j h1 h2 => by omega, Ext.refl _⟩
    case round =>
      obtain ⟨k, hk, rfl, hs, hext⟩ := hrel
      have HS := Lib.hid hs
      have HH := Lib.hid h
      clear hs
      rcases Nat.eq_zero_or_pos k with hk0 | hk0
      · subst hk0
        have c : cmpI (val B64 xs) (val B64 ys) = 0 := by rw [ext_getD h (fun j hj => HS.out j (Nat.zero_le _) hj)]; exact cmpI_eq _
        have HC := Lib.hid c
        clear c h
        go_wp2
        go_ret
        exact ⟨by rw [HC.out]; rfl, hext⟩
      · obtain ⟨bx, ox, rfl, cx1⟩ := RX.out.cellAt (k - 1) (by omega)
        have cx := hext.cell cx1
        obtain ⟨by', oy, rfl, cy1⟩ := RY.out.cellAt (k - 1) (by omega)
        have cy := hext.cell cy1
        have en : ((k - 1 : Nat) : Int) = (k : Int) - 1 := by omega
        have nx : (k : Int) - 1 < (xs.length : Int) := by omega
        have ny : (k : Int) - 1 < (ys.length : Int) := by omega
        have e1 : ∀ i, k - 1 + 1 ≤ i → i < xs.length → xs.getD i 0 = ys.getD i 0 := fun i h1 h2 => HS.out i (by omega) h2
        clear cx1 cy1
        rcases Int.lt_trichotomy (xs.getD (k - 1) 0) (ys.getD (k - 1) 0) with hd | hd | hd
        · have HC := Lib.hid (cmpI_lt (val_lt (by decide) dX dY h (k - 1) (by omega) e1 hd))
          clear e1 h
          generalize xs.getD (k - 1) 0 = xd at *
          generalize ys.getD (k - 1) 0 = yd at *
          go_wp2_with fail
          go_quiet (fail)
          go_wp2
          go_ret
          exact ⟨by rw [HC.out]; rfl, Ext.q⟩
        · have HD := Lib.hid hd
          rw [hd] at cx
          clear e1 h hd
          generalize ys.getD (k - 1) 0 = yd at cx cy
          go_wp2_with fail
          go_quiet (fail)
          go_wp2_with fail
          go_quiet (fail)
          go_wp2_with fail
          refine ⟨⟨k - 1, by omega, by rw [en], fun j h1 h2 => ?_, Ext.q⟩, by simp [intOf]; omega⟩
          rcases Nat.lt_or_ge j k with h3 | h3
          · rw [show j = k - 1 by omega]; exact HD.out
          · exact HS.out j h3 h2
        · have HC := Lib.hid (cmpI_gt (val_lt (by decide) dY dX h.symm (k - 1) (by omega) (fun i h1 h2 => (e1 i h1 (by omega)).symm) hd))
          clear e1 h
          generalize xs.getD (k - 1) 0 = xd at *
          generalize ys.getD (k - 1) 0 = yd at *
          have hnd : ¬ xd < yd := by omega
          go_wp2_with fail
          go_quiet (fail)
          go_wp2_with fail
          go_quiet (fail)
          go_wp2
          go_ret
          exact ⟨by rw [HC.out]; rfl, Ext.q⟩
  · have c := cmpI_gt (val_len_lt (by decide) dY dX nX h)
    have HC := Lib.hid c
    have n1 : ((xs.length : Int) == (ys.length : Int)) = false := by rw [beq_eq_false_iff_ne]; omega
    clear c
    go_enter Tryz.func225, Tryz.ntmps225
    go_wp2
    go_ret
    exact ⟨by rw [HC.out]; rfl, Ext.q⟩
end Go.Proofs.YtkegefnpmijfiaaGreat
namespace Go.Proofs.YtkegefnpmijfiaaGreat
open Go.RowKit
/-- The first k digits have been added. -/
structure AddRel (xs ys : List Int) (k : Nat) (c : Int) (zs : List Int) : Prop where
  len : zs.length = xs.length + 1
  digs : Digs B64 zs
  c01 : c = 0 ∨ c = 1
  zero : ∀ j, k ≤ j → zs.getD j 0 = 0
  is : val B64 zs + c * B64 ^ k = val B64 (xs.take k) + val B64 (ys.take k)
theorem AddRel.step {xs ys zs : List Int} {k : Nat} {c c' s : Int} (h : AddRel xs ys k c zs) (hk : k < xs.length)
    (e : xs.getD k 0 + ys.getD k 0 + c = s + c' * B64) (s0 : 0 ≤ s) (s1 : s < B64) (hc : c' = 0 ∨ c' = 1) : AddRel xs ys (k + 1) c' (zs.set k s) := by
  refine ⟨by rw [List.length_set]; exact h.len, h.digs.set _ s0 s1, hc, fun j hj => ?_, ?_⟩
  · rw [getD_set_ne _ _ _ _ (by omega)]; exact h.zero _ (by omega)
  · have i := h.is
    have z := h.zero k (Nat.le_refl _)
    rw [val_set _ _ _ _ (by rw [h.len]; omega), z, Int.sub_zero, val_take_succ, val_take_succ, Int.pow_succ]
    have e2 : xs.getD k 0 * B64 ^ k + ys.getD k 0 * B64 ^ k + c * B64 ^ k = s * B64 ^ k + c' * (B64 ^ k * B64) := by
      rw [← Int.add_mul, ← Int.add_mul, e, Int.add_mul, Int.mul_comm (B64 ^ k) B64, Int.mul_assoc]
    generalize c' * (B64 ^ k * B64) = t1 at *
    generalize s * B64 ^ k = t2 at *
    generalize xs.getD k 0 * B64 ^ k = t3 at *
    generalize ys.getD k 0 * B64 ^ k = t4 at *
    generalize c * B64 ^ k = t5 at *
    omega
theorem AddRel.done {xs ys zs : List Int} {c : Int} (h : AddRel xs ys xs.length c zs) (hl : ys.length ≤ xs.length) : Digs B64 (zs.set xs.length c) ∧ val B64 (zs.set xs.length c) = val B64 xs + val B64 ys ∧ (zs.set xs.length c).length = xs.length + 1 := by
  have i := h.is
  have z := h.zero xs.length (Nat.le_refl _)
  rw [List.take_length, List.take_of_length_le hl] at i
  refine ⟨h.digs.set _ (by rcases h.c01 with h | h <;> omega) (by unfold B64; rcases h.c01 with h | h <;> omega), ?_, by rw [List.length_set]; exact h.len⟩
  rw [val_set _ _ _ _ (by rw [h.len]; omega), z, Int.sub_zero]; exact i
theorem add_start (xs ys : List Int) : AddRel xs ys 0 0 (List.replicate (xs.length + 1) 0) := by
  have z : ∀ j, (List.replicate (xs.length + 1) (0 : Int)).getD j 0 = 0 := fun j => by
    rw [List.getD_eq_getElem?_getD, List.getElem?_replicate]; split <;> rfl
  refine ⟨by simp, fun d hd => ?_, .inl rfl, fun j _ => z j, ?_⟩
  · have := List.eq_of_mem_replicate hd; subst this; exact ⟨Int.le_refl _, by decide⟩
  · rw [val_zeros _ _ (fun j _ => z j)]; simp [val]
theorem getD_bd' {ds : List Int} (h : Digs B64 ds) (i : Nat) : 0 ≤ ds.getD i 0 ∧ ds.getD i 0 < B64 := by
  rcases Nat.lt_or_ge i ds.length with hi | hi
  · exact h.at i hi
  · have e : ds.getD i 0 = 0 := by rw [List.getD_eq_getElem?_getD, List.getElem?_eq_none hi]; rfl
    rw [e]; exact ⟨Int.le_refl _, by decide⟩
theorem getD_over (ys : List Int) (k : Nat) (h : ys.length ≤ k) : ys.getD k 0 = 0 := by
  rw [List.getD_eq_getElem?_getD, List.getElem?_eq_none h]; rfl
set_option maxHeartbeats 4000000 in
set_option maxRecDepth 100000 in
theorem wadd_new {m1 m2 : Value} {X Y : Int} {L : Nat} {w : World} (hX : NatAt w m1 X L) (hY : NatAt w m2 Y L) (hL : L ≤ 400000) :
    Calls Tryz.prog 178 #[m1, m2] w fun e w' => ∃ v, e = .returned v ∧ Ext w w' ∧ NatAt w' v (X + Y) (L + 1) ∧ New w v := by
  obtain ⟨i0, hi0, hz0, hz1, hz2⟩ := info_parts info64
  obtain ⟨ps, ⟨ax, capx, rfl, hx2⟩, dX, nX, rfl, lX⟩ := hX.is
  obtain ⟨qs, ⟨ay, capy, rfl, hy2⟩, dY, nY, rfl, lY⟩ := hY.is
  have rx' : Row .u64 w (.slice ax ps.length capx) ps := ⟨ax, capx, rfl, hx2⟩
  have ry' : Row .u64 w (.slice ay qs.length capy) qs := ⟨ay, capy, rfl, hy2⟩
  have RX := Lib.hid rx'
  have RY := Lib.hid ry'
  have DX := Lib.hid dX
  have DY := Lib.hid dY
  clear rx' ry' hx2 hy2 hX hY nX nY dX dY
  go_enter Tryz.func178, Tryz.ntmps178
  go_upto_if 14 with fail
  go_cut [0, 1] (fun y0 y1 wx => w = wx ∧ ∃ (ax : Option Addr) (xs : List Int) (capx : Nat) (ay : Option Addr) (ys : List Int) (capy : Nat), y0 = .slice ax xs.length capx ∧ y1 = .slice ay ys.length capy ∧ Row .u64 w (.slice ax xs.length capx) xs ∧ Row .u64 w (.slice ay ys.length capy) ys ∧ Digs B64 xs ∧ Digs B64 ys ∧ val B64 xs + val B64 ys = val B64 ps + val B64 qs ∧ ys.length ≤ xs.length ∧ xs.length ≤ L)
  case first =>
    rcases Nat.lt_or_ge ps.length qs.length with h | h
    · go_wp2_with fail
      go_meet
      exact ⟨rfl, _, qs, _, _, ps, _, rfl, rfl, RY.out, RX.out, DY.out, DX.out, Int.add_comm _ _, by omega, by omega⟩
    · go_wp2_with fail
      go_meet
      exact ⟨rfl, _, ps, _, _, qs, _, rfl, rfl, RX.out, RY.out, DX.out, DY.out, rfl, by omega, by omega⟩
  case rest =>
    clear RX RY DX DY
    obtain ⟨rfl, ax', xs, capx', ay', ys, capy', rfl, rfl, rx, ry, dX, dY, hv, hl, lX'⟩ := hcut
    have RX := Lib.hid rx
    have RY := Lib.hid ry
    have DX := Lib.hid dX
    have DY := Lib.hid dY
    have HV := Lib.hid hv
    clear rx ry dX dY hv lX lY
    go_wp2_with (at_make; refine wpList_make_full _ rfl _ _ 141 rfl w.heap.size 59 i0 _ 1 Tryz.underlying141 hi0 hz0 hz1 _ _ _ _ (xs.length + 1) rfl rfl (by omega) (by omega) (by rw [hz2]; omega) (by unfold maxLen; omega) (Nat.le_refl _) ?_; intro v3 hown0 hgrow0)
    have hownA : v3.ownsRow w.heap.size 59 1 (.slice (some ⟨w.heap.size, 0, none⟩) (xs.length + 1) (xs.length + 1)) (xs.length + 1) ((List.replicate (xs.length + 1) 0).map (Value.int .u64)) := by
      rw [List.map_replicate]; have h := hown0; rw [Nat.mul_one, show (Value.int .u64 0).cells = #[.int .u64 0] from rfl, toList_madeCells_one] at h; exact h
    have xA : Ext w v3 := Ext.grown (Ext.refl _) hgrow0 (fun r hr => by cases hr)
    have HA := Lib.hid hownA
    clear hown0 hgrow0 hownA
    go_loopw [6, 23] (fun cv iv wr => ∃ (k : Nat) (c : Int) (zs : List Int), k ≤ xs.length ∧ iv = .int .i64 k ∧ cv = .int .u64 c ∧ AddRel xs ys k c zs ∧ wr.ownsRow w.heap.size 59 1 (.slice (some ⟨w.heap.size, 0, none⟩) (xs.length + 1) (xs.length + 1)) (xs.length + 1) (zs.map (Value.int .u64)) ∧ Ext w wr) (fun _ iv _ => xs.length - (intOf iv).toNat)
    case atStart => exact ⟨0, 0, List.replicate (xs.length + 1) 0, Nat.zero_le _, rfl, rfl, add_start xs ys, HA.out, xA⟩
    case round =>
      obtain ⟨k, c, zs, hk, rfl, rfl, hI, hown, hext⟩ := hrel
      rcases Nat.lt_or_ge k xs.length with hx | hge
      · have cz := owns_at hown k (by omega)
        have fz := hown.frozenAt k
        obtain ⟨bx, ox, rfl, cx1⟩ := RX.out.cellAt k hx
        have cx := hext.cell cx1
        obtain ⟨a0, a1⟩ := getD_bd' DX.out k
        obtain ⟨b0, b1⟩ := getD_bd' DY.out k
        have c01 := hI.c01
        have ST := Lib.hid (fun s c' => hI.step (s := s) (c' := c') hx)
        have HW := Lib.hid hown
        have nx : (k : Int) < (xs.length : Int) := by omega
        have nz : (k : Int) < (xs.length : Int) + 1 := by omega
        clear cx1 hI hown
        unfold B64 at a1 b1
        generalize hxd : xs.getD k 0 = x at *
        have HXD := Lib.hid hxd
        clear hxd
        rcases c01 with rfl | rfl
        · rcases Nat.lt_or_ge k ys.length with hy | hy
          · skip
            obtain ⟨by', oy, rfl, cy1⟩ := RY.out.cellAt k hy
            have cy := hext.cell cy1
            have ny : (k : Int) < (ys.length : Int) := by omega
            clear cy1
            generalize hyd : ys.getD k 0 = y at *
            have HYD := Lib.hid hyd
            clear hyd
            rcases Int.lt_or_le (x + y) 18446744073709551616 with hs | hs
            · have w1 : IntKind.u64.wrap (x + y) = x + y := by rw [IntKind.wrap_u64]; omega
              have w2 : ¬ x + y < y := by omega
              go_wp2_with fail
              exact ⟨⟨k + 1, 0, _, by omega, by go_num, rfl, ST.out _ 0 (by have g1 := HYD.out; unfold B64; omega) (by omega) (by unfold B64; omega) (by omega), own_set HW.out _ _, Ext.q⟩, by simp [intOf]; omega⟩
            · have w1 : IntKind.u64.wrap (x + y) = x + y - 18446744073709551616 := by rw [IntKind.wrap_u64]; omega
              have w2 : x + y - 18446744073709551616 < y := by omega
              go_wp2_with fail
              exact ⟨⟨k + 1, 1, _, by omega, by go_num, rfl, ST.out _ 1 (by have g1 := HYD.out; unfold B64; omega) (by omega) (by unfold B64; omega) (by omega), own_set HW.out _ _, Ext.q⟩, by simp [intOf]; omega⟩
          · skip
            have yz := getD_over ys k hy
            have HYD := Lib.hid yz
            have ny : ¬ (k : Int) < (ys.length : Int) := by omega
            clear yz b0 b1
            go_wp2_with fail
            exact ⟨⟨k + 1, 0, _, by omega, by go_num, rfl, ST.out _ 0 (by have g1 := HYD.out; unfold B64; omega) (by omega) (by unfold B64; omega) (by omega), own_set HW.out _ _, Ext.q⟩, by simp [intOf]; omega⟩
        · rcases Int.lt_or_le (x + 1) 18446744073709551616 with h1 | h1
          · have v1 : IntKind.u64.wrap (x + 1) = x + 1 := by rw [IntKind.wrap_u64]; omega
            have v2 : ¬ x + 1 < x := by omega
            rcases Nat.lt_or_ge k ys.length with hy | hy
            · skip
              obtain ⟨by', oy, rfl, cy1⟩ := RY.out.cellAt k hy
              have cy := hext.cell cy1
              have ny : (k : Int) < (ys.length : Int) := by omega
              clear cy1
              generalize hyd : ys.getD k 0 = y at *
              have HYD := Lib.hid hyd
              clear hyd
              rcases Int.lt_or_le (x + 1 + y) 18446744073709551616 with hs | hs
              · have w1 : IntKind.u64.wrap (x + 1 + y) = x + 1 + y := by rw [IntKind.wrap_u64]; omega
                have w2 : ¬ x + 1 + y < y := by omega
                go_wp2_with fail
                exact ⟨⟨k + 1, 0, _, by omega, by go_num, rfl, ST.out _ 0 (by have g1 := HYD.out; unfold B64; omega) (by omega) (by unfold B64; omega) (by omega), own_set HW.out _ _, Ext.q⟩, by simp [intOf]; omega⟩
              · have w1 : IntKind.u64.wrap (x + 1 + y) = x + 1 + y - 18446744073709551616 := by rw [IntKind.wrap_u64]; omega
                have w2 : x + 1 + y - 18446744073709551616 < y := by omega
                go_wp2_with fail
                exact ⟨⟨k + 1, 1, _, by omega, by go_num, rfl, ST.out _ 1 (by have g1 := HYD.out; unfold B64; omega) (by omega) (by unfold B64; omega) (by omega), own_set HW.out _ _, Ext.q⟩, by simp [intOf]; omega⟩
            · skip
              have yz := getD_over ys k hy
              have HYD := Lib.hid yz
              have ny : ¬ (k : Int) < (ys.length : Int) := by omega
              clear yz b0 b1
              go_wp2_with fail
              exact ⟨⟨k + 1, 0, _, by omega, by go_num, rfl, ST.out _ 0 (by have g1 := HYD.out; unfold B64; omega) (by omega) (by unfold B64; omega) (by omega), own_set HW.out _ _, Ext.q⟩, by simp [intOf]; omega⟩
          · have v1 : IntKind.u64.wrap (x + 1) = 0 := by rw [IntKind.wrap_u64]; omega
            have v2 : (0 : Int) < x := by omega
            rcases Nat.lt_or_ge k ys.length with hy | hy
            · skip
              obtain ⟨by', oy, rfl, cy1⟩ := RY.out.cellAt k hy
              have cy := hext.cell cy1
              have ny : (k : Int) < (ys.length : Int) := by omega
              clear cy1
              generalize hyd : ys.getD k 0 = y at *
              have HYD := Lib.hid hyd
              clear hyd
              go_wp2_with fail
              exact ⟨⟨k + 1, 1, _, by omega, by go_num, rfl, ST.out _ 1 (by have g1 := HYD.out; unfold B64; omega) (by omega) (by unfold B64; omega) (by omega), own_set HW.out _ _, Ext.q⟩, by simp [intOf]; omega⟩
            · skip
              have yz := getD_over ys k hy
              have HYD := Lib.hid yz
              have ny : ¬ (k : Int) < (ys.length : Int) := by omega
              clear yz b0 b1
              go_wp2_with fail
              exact ⟨⟨k + 1, 1, _, by omega, by go_num, rfl, ST.out _ 1 (by have g1 := HYD.out; unfold B64; omega) (by omega) (by unfold B64; omega) (by omega), own_set HW.out _ _, Ext.q⟩, by simp [intOf]; omega⟩
      · obtain rfl : k = xs.length := by omega
        have cz := owns_at hown xs.length (by omega)
        have fz := hown.frozenAt xs.length
        obtain ⟨dd, dv', dl⟩ := hI.done hl
        have DD := Lib.hid dd
        have DV := Lib.hid dv'
        have DL := Lib.hid dl
        have HW := Lib.hid hown
        have nz : (xs.length : Int) < (xs.length : Int) + 1 := by omega
        clear hI hown dd dv' dl
        generalize zs.getD xs.length 0 = zd at *
        go_wp2_with fail
        have HR := Lib.hid (Row.of_owns (own_set HW.out xs.length c)).1
        refine (wtrim_new HR.out).mono ?_
        rintro e w' ⟨v4, n3, hcut, rfl, hrow, rfl, hb⟩
        have HC := Lib.hid (NatAt.of_cut hrow hcut DD.out (Nat.le_of_eq DL.out))
        have HN : Hid (New w v4) := Lib.hid (fun b h => by rw [hb] at h; simp [Value.ownBlock] at h; omega)
        clear hrow hcut hb
        go_wp2
        go_ret
        refine ⟨_, rfl, Ext.q, ?_, HN.out⟩
        have h := HC.out
        rw [DV.out, HV.out] at h
        exact h.mono (by omega)
end Go.Proofs.YtkegefnpmijfiaaGreat
namespace Go.Proofs.YtkegefnpmijfiaaGreat
open Go.RowKit
theorem NatAt.zero (w : World) (L : Nat) : NatAt w (.slice none 0 0) 0 L := ⟨⟨[], Row.nil _ _, (fun d hd => absurd hd (by simp)), Or.inl rfl, rfl, Nat.zero_le _⟩⟩
theorem New.nil (w : World) : New w (.slice none 0 0) := fun b h => by simp [Value.ownBlock] at h
theorem wword_new (n : Int) (w : World) (h0 : 0 ≤ n) (h1 : n < 18446744073709551616) :
    Calls Tryz.prog 180 #[.int .u64 n] w fun e w' => ∃ v, e = .returned v ∧ Ext w w' ∧ NatAt w' v n 1 ∧ New w v := by
  by_cases hz : n = 0
  · subst hz
    go_enter Tryz.func180, Tryz.ntmps180
    go_wp2
    go_ret
    exact ⟨_, rfl, Ext.q, NatAt.zero _ _, New.nil _⟩
  · have hr : Row .u64 (w.alloc (.cells #[.int .u64 n] 59)) (.slice (some ⟨w.heap.size, 0, none⟩) 1 1) [n] := by
      refine ⟨_, 1, rfl, Nat.le_refl _, by unfold maxLen; omega, fun _ => ⟨_, 0, rfl, fun i hi => ?_⟩⟩
      obtain rfl : i = 0 := by simpa using hi
      simp
    have H : Hid (NatAt (w.alloc (.cells #[.int .u64 n] 59)) (.slice (some ⟨w.heap.size, 0, none⟩) 1 1) n 1) := Lib.hid ⟨⟨[n], hr, (fun d hd => by simp at hd; subst hd; exact ⟨h0, h1⟩), .inr (by simp; exact hz), by simp [val], by simp⟩⟩
    have nz : (n == 0) = false := by rw [beq_eq_false_iff_ne]; exact hz
    clear hr hz
    go_enter Tryz.func180, Tryz.ntmps180
    go_wp2
    go_ret
    exact ⟨_, rfl, Ext.q, H.out, fun b hb => by simp [Value.ownBlock] at hb; omega⟩
theorem wOf_raw (neg : Bool) {m : Value} {n : Int} {L : Nat} {w : World} (h : NatAt w m n L) (u : World) :
    Calls Tryz.prog 176 #[.bool neg, m] u fun e w' => e = .returned (.agg #[.bool (neg && decide (0 < n)), m]) ∧ Ext u w' := by
  obtain ⟨a, k, cap, rfl, hk, z1, z2⟩ := h.form
  clear h
  rcases Nat.eq_zero_or_pos k with hk0 | hk0
  · obtain rfl := z1 hk0
    subst hk0
    clear z1 z2
    cases neg
    all_goals
      go_enter Tryz.func176, Tryz.ntmps176
      go_wp2
      simp [bodyPost, results, Tryz.results176, go_sem]
      exact Ext.q
  · have hn : decide (0 < n) = true := by simp [z2 hk0]
    have kk : (0 : Int) < (k : Int) := by omega
    rw [hn]
    clear z1 z2 hn
    cases neg
    all_goals
      go_enter Tryz.func176, Tryz.ntmps176
      go_wp2
      simp [bodyPost, results, Tryz.results176, go_sem]
      exact Ext.q
theorem wZero_ref {v : Value} {x : Int} {L : Nat} {w : World} (h : IntAt w v x L) :
    Calls Tryz.prog 273 #[v] w fun e w' => e = .returned (.bool (decide (x = 0))) ∧ Ext w w' := by
  obtain ⟨m, rfl, hm⟩ := h.is
  obtain ⟨a, k, cap, rfl, -, z1, z2⟩ := hm.form
  clear h hm
  rcases Nat.eq_zero_or_pos k with hk | hk
  · have e : decide (x = 0) = true := by have := z1 hk; unfold mag at this; simp; split at this <;> omega
    rw [e]
    subst hk
    clear z1 z2 e
    go_enter Tryz.func273, Tryz.ntmps273
    go_wp2
    go_ret
    exact ⟨rfl, Ext.q⟩
  · have e : decide (x = 0) = false := by have := z2 hk; unfold mag at this; simp; split at this <;> omega
    rw [e]
    have kk : ¬ (k : Int) = 0 := by omega
    have kn : ¬ k = 0 := by omega
    clear z1 z2 e
    go_enter Tryz.func273, Tryz.ntmps273
    go_wp2
    simp [bodyPost, results, Tryz.results273, go_sem, *]
    exact Ext.q
theorem wSmall_ref {v : Value} {x : Int} {L : Nat} {w : World} (h : IntAt w v x L) :
    Calls Tryz.prog 168 #[v] w fun e w' => e = .returned (.tuple #[.int .i64 (sv x), .bool (sb x)]) ∧ Ext w w' := by
  obtain ⟨m, rfl, hm⟩ := h.is
  obtain ⟨xs, ⟨ax, capx, rfl, hx2⟩, dX, nX, e, lX⟩ := hm.is
  have rx' : Row .u64 w (.slice ax xs.length capx) xs := ⟨ax, capx, rfl, hx2⟩
  have RX := Lib.hid rx'
  clear h hm rx' hx2 lX
  by_cases h0 : xs = []
  · subst h0
    have hx : x = 0 := by simp [val] at e; unfold mag at e; split at e <;> omega
    subst hx
    rw [(sb_of (x := 0) (by omega)).1, (sb_of (x := 0) (by omega)).2]
    clear e dX nX
    go_enter Tryz.func168, Tryz.ntmps168
    go_wp2
    go_ret2
    exact ⟨rfl, Ext.q⟩
  · have hpos : 0 < xs.length := List.length_pos_iff.2 h0
    obtain ⟨bx, ox, rfl, cx⟩ := RX.out.cellAt 0 hpos
    rw [Nat.add_zero] at cx
    have hbx : bx < w.heap.size := cell_lt cx
    have vt := val_top (by decide) dX nX h0
    have vb := (val_bd (by decide) xs dX).2
    rw [e] at vt vb
    obtain ⟨d0, d1⟩ := dX.at 0 hpos
    unfold B64 at d1
    have nz : ¬ (xs.length : Int) = 0 := by omega
    by_cases h1 : xs.length = 1
    · have ed : xs.getD 0 0 = mag x := by
        obtain ⟨d, rfl⟩ := List.length_eq_one_iff.1 h1
        rw [← e]; simp [val]
      rw [ed] at cx d0 d1
      rw [h1] at nz ⊢
      clear e dX nX RX vt vb h0 ed hpos
      rcases Int.lt_or_le x 0 with hx | hx
      · have eb : decide (x < 0) = true := by simp [hx]
        have em : mag x = -x := by rw [mag, if_pos hx]
        rw [em] at cx d0 d1
        rw [eb]
        by_cases hs : -x ≤ 9223372036854775808
        · rw [(sb_of (x := x) (by omega)).1, (sb_of (x := x) (by omega)).2]
          have hs' : ¬ 9223372036854775808 < -x := by omega
          have e1 : wrap64 (IntKind.u64.wrap x) = x := by rw [IntKind.wrap_u64]; unfold wrap64; omega
          clear eb em h1 hs
          go_enter Tryz.func168, Tryz.ntmps168
          go_wp2
          go_ret2
          simp [*]
          exact Ext.q
        · rw [(sb_no (x := x) (by omega)).1, (sb_no (x := x) (by omega)).2]
          have hs' : 9223372036854775808 < -x := by omega
          clear eb em h1 hs
          go_enter Tryz.func168, Tryz.ntmps168
          go_wp2
          go_ret2
          exact ⟨rfl, Ext.q⟩
      · have eb : decide (x < 0) = false := by simp; omega
        have em : mag x = x := by rw [mag, if_neg (by omega)]
        rw [em] at cx d0 d1
        rw [eb]
        by_cases hs : x < 9223372036854775808
        · rw [(sb_of (x := x) (by omega)).1, (sb_of (x := x) (by omega)).2]
          have hs' : ¬ 9223372036854775808 ≤ x := by omega
          have e1 : wrap64 x = x := by unfold wrap64; omega
          clear eb em h1 hs
          go_enter Tryz.func168, Tryz.ntmps168
          go_wp2
          go_ret2
          simp [*]
          exact Ext.q
        · rw [(sb_no (x := x) (by omega)).1, (sb_no (x := x) (by omega)).2]
          have hs' : 9223372036854775808 ≤ x := by omega
          clear eb em h1 hs
          go_enter Tryz.func168, Tryz.ntmps168
          go_wp2
          go_ret2
          exact ⟨rfl, Ext.q⟩
    · have big : B64 ^ 1 ≤ mag x := Int.le_trans (pow_mono' (show (1 : Int) ≤ B64 by decide) (show 1 ≤ xs.length - 1 by omega)) vt
      have b1 : B64 ^ 1 = 18446744073709551616 := by decide
      rw [b1] at big
      have sn := sb_no (x := x) (by unfold mag at big; split at big <;> omega)
      rw [sn.1, sn.2]
      have gt : (1 : Int) < (xs.length : Int) := by omega
      clear e dX nX RX vt vb h0 sn big b1 h1
      generalize xs.getD 0 0 = d at *
      go_enter Tryz.func168, Tryz.ntmps168
      go_wp2
      go_ret2
      exact ⟨rfl, Ext.q⟩
theorem wFrom_new (x : Int) (w : World) (h0 : 0 ≤ x) (h1 : x ≤ 9223372036854775807) :
    Calls Tryz.prog 137 #[.int .i64 x] w fun e w' => ∃ v, e = .returned v ∧ Ext w w' ∧ IntAt w' v x 1 ∧ NewInt w v := by
  have N := Lib.hid (fun u => wword_new x u h0 (by omega))
  have w1 : IntKind.u64.wrap x = x := by rw [IntKind.wrap_u64]; omega
  have SX := Lib.hid (show (false && decide (0 < x)) = decide (x < 0) by simp; omega)
  have MX := Lib.hid (mag_of h0)
  have nl : ¬ x < 0 := by omega
  go_enter Tryz.func137, Tryz.ntmps137
  go_wp2_with fail; refine (N.out _).mono ?_; rintro e v1 ⟨q1, rfl, x1, h1⟩; obtain ⟨c1, f1⟩ := x1.rules; have z1 := x1.size; have lq := fun o => c1 (w.heap.size) o (by first | (simp; done) | (simp; omega) | omega); have mq := fun o => f1 (w.heap.size) o (by first | (simp; done) | (simp; omega) | omega); have k1_0_0 := lq 0; have q1_0_0 := mq 0; have k1_0_1 := lq 1; have q1_0_1 := mq 1; clear lq mq; have z1_0 : w.heap.size < v1.heap.size := (by (try simp at z1); omega); (try simp at z1); clear c1 f1; simp [go_sem, *] at k1_0_0 q1_0_0 k1_0_1 q1_0_1
  obtain ⟨h1, n1⟩ := h1
  obtain ⟨a, k, c, rfl, -⟩ := h1.form
  have H1 := Lib.hid h1
  have N1 := Lib.hid n1
  clear h1 n1
  go_wp2_with fail; refine (wOf_raw false H1.out _).mono ?_; rintro e v2 ⟨rfl, x2⟩; obtain ⟨c2, f2⟩ := x2.rules; have z2 := x2.size; have lq := fun o => c2 (w.heap.size) o (by first | (simp; done) | (simp; omega) | omega); have mq := fun o => f2 (w.heap.size) o (by first | (simp; done) | (simp; omega) | omega); have k2_0_0 := lq 0; have q2_0_0 := mq 0; have k2_0_1 := lq 1; have q2_0_1 := mq 1; clear lq mq; have z2_0 : w.heap.size < v2.heap.size := (by (try simp at z2); omega); (try simp at z2); clear c2 f2; simp [go_sem, *] at k2_0_0 q2_0_0 k2_0_1 q2_0_1; (try clear k1_0_0); (try clear q1_0_0); (try clear k1_0_1); (try clear q1_0_1)
  have O1 := Lib.hid (N1.out.off (g := w.heap.size) (by simp))
  have HX := Lib.hid (show NatAt v1 (.slice a k c) (mag x) 1 by rw [MX.out]; exact H1.out)
  go_wp2
  simp [bodyPost, results, Tryz.results137, go_sem, *]
  have q := SX.out
  rw [Bool.false_and] at q
  exact ⟨Ext.q, IntAt.of q (by repeat (first | with_reducible exact HX.out | with_reducible refine NatAt.alloc' ?_ | with_reducible refine NatAt.drew' ?_ | with_reducible refine NatAt.drewN' ?_ | with_reducible refine NatAt.off ?_ O1.out | with_reducible refine NatAt.ext ?_ x1 | with_reducible refine NatAt.ext ?_ x2 | with_reducible refine NatAt.ext ?_ xd | with_reducible refine NatAt.ext ?_ hx | with_reducible refine NatAt.ext ?_ hext)), NewInt.mk (N1.out.old (by first | (simp; done) | (simp; omega) | omega))⟩
theorem wOne_new (w : World) :
    Calls Tryz.prog 184 #[] w fun e w' => ∃ v, e = .returned v ∧ Ext w w' ∧ IntAt w' v 1 1 ∧ NewInt w v := by
  have N := Lib.hid (fun u => wFrom_new 1 u (by omega) (by omega))
  go_enter Tryz.func184, Tryz.ntmps184
  go_wp2_with fail; refine (N.out _).mono ?_; rintro e v1 ⟨q1, rfl, x1, h1⟩; obtain ⟨c1, f1⟩ := x1.rules; have z1 := x1.size; have lq := fun o => c1 (w.heap.size) o (by first | (simp; done) | (simp; omega) | omega); have mq := fun o => f1 (w.heap.size) o (by first | (simp; done) | (simp; omega) | omega); have k1_0_0 := lq 0; have q1_0_0 := mq 0; have k1_0_1 := lq 1; have q1_0_1 := mq 1; clear lq mq; have z1_0 : w.heap.size < v1.heap.size := (by (try simp at z1); omega); (try simp at z1); clear c1 f1; simp [go_sem, *] at k1_0_0 q1_0_0 k1_0_1 q1_0_1
  obtain ⟨h1, n1⟩ := h1
  obtain ⟨a, k, c, rfl, hf⟩ := h1.form
  have H1 := Lib.hid hf
  have N1 := Lib.hid (n1 _ _ rfl)
  have O1 := Lib.hid (N1.out.off (g := w.heap.size) (by simp))
  clear h1 n1 hf
  go_wp2
  simp [bodyPost, results, Tryz.results184, go_sem, *]
  exact ⟨Ext.q, IntAt.of rfl (by repeat (first | with_reducible exact H1.out | with_reducible refine NatAt.alloc' ?_ | with_reducible refine NatAt.drew' ?_ | with_reducible refine NatAt.drewN' ?_ | with_reducible refine NatAt.off ?_ O1.out | with_reducible refine NatAt.ext ?_ x1 | with_reducible refine NatAt.ext ?_ x2 | with_reducible refine NatAt.ext ?_ xd | with_reducible refine NatAt.ext ?_ hx | with_reducible refine NatAt.ext ?_ hext)), NewInt.mk (N1.out.old (by first | (simp; done) | (simp; omega) | omega))⟩
theorem wCmp_ref {u v : Value} {x y : Int} {L : Nat} {w : World} (hu : IntAt w u x L) (hv : IntAt w v y L) (x0 : 0 ≤ x) (y0 : 0 ≤ y) (hL : L ≤ 1000000) :
    Calls Tryz.prog 183 #[u, v] w fun e w' => e = .returned (.int .i64 (cmpI x y)) ∧ Ext w w' := by
  obtain ⟨a1, k1, c1, rfl, m1⟩ := hu.form
  obtain ⟨a2, k2, c2, rfl, m2⟩ := hv.form
  have sx : decide (x < 0) = false := by simp; omega
  have sy : decide (y < 0) = false := by simp; omega
  rw [sx, sy]
  rw [mag_of x0] at m1
  rw [mag_of y0] at m2
  have M1 := Lib.hid m1
  have M2 := Lib.hid m2
  clear m1 m2 hu hv sx sy
  go_enter Tryz.func183, Tryz.ntmps183
  go_wp2_with fail; refine (wcmp_any (M1.out.ext Ext.q) (M2.out.ext Ext.q) hL).mono ?_; rintro e v1 ⟨rfl, x1⟩; obtain ⟨c1, f1⟩ := x1.rules; have z1 := x1.size
  go_wp2
  go_ret
  exact ⟨rfl, Ext.q⟩
end Go.Proofs.YtkegefnpmijfiaaGreat
namespace Go.Proofs.YtkegefnpmijfiaaGreat
open Go.RowKit
theorem left_row (ws : List Int) (q k m : Nat) (c e c' : Int) (h : ws.length = k) :
    ((List.replicate q (0 : Int) ++ (ws ++ c :: List.replicate (m + 1) 0)).set (k + q) e).set (k + q + 1) c' = List.replicate q 0 ++ ((ws ++ [e]) ++ c' :: List.replicate m 0) := by
  rw [Nat.add_comm k q]
  subst h
  rw [List.set_append_right _ _ (by simp), List.length_replicate, show q + ws.length - q = ws.length by omega, List.set_append_right _ _ (Nat.le_refl _), Nat.sub_self, List.set_cons_zero]
  rw [List.set_append_right _ _ (by simp; omega), List.length_replicate, show q + ws.length + 1 - q = ws.length + 1 by omega, List.set_append_right _ _ (by omega), show ws.length + 1 - ws.length = 1 by omega, List.replicate_succ, List.set_cons_succ, List.set_cons_zero]
  simp
theorem left_getD (ws : List Int) (q k _m : Nat) (c : Int) (h : ws.length = k) (ds : List Int) : (List.replicate q (0 : Int) ++ (ws ++ c :: ds)).getD (q + k) 0 = c := by
  subst h
  simp [List.getD_eq_getElem?_getD]
set_option maxHeartbeats 2000000 in
set_option maxRecDepth 100000 in
theorem wleft_cap {m : Value} {x n : Int} {L q s : Nat} {w : World} (hX : NatAt w m x L) (hL : L ≤ 1000000) (hq : q ≤ 1000000) (hs : s < 64) (hn : n = 64 * q + s) :
    Calls Tryz.prog 177 #[m, .int .i64 n] w fun e w' => ∃ v, e = .returned v ∧ Ext w w' ∧ NatAt w' v (x * 2 ^ (64 * q + s)) (L + q + 1) ∧ New w v ∧ ∃ a m, v = .slice a m m := by
  obtain ⟨xs, ⟨ax, capx, rfl, hx2⟩, dX, nX, rfl, lX⟩ := hX.is
  by_cases h0 : xs = []
  · subst h0
    clear hX
    have HN : Hid (NatAt w (.slice none 0 0) (val B64 [] * 2 ^ (64 * q + s)) (L + q + 1)) := Lib.hid ⟨⟨[], Row.nil _ _, (fun d hd => absurd hd (by simp)), Or.inl rfl, by simp [val], Nat.zero_le _⟩⟩
    go_enter Tryz.func177, Tryz.ntmps177
    go_wp2
    go_ret
    exact ⟨_, rfl, Ext.q, HN.out, (fun b hb => by cases hb), _, _, rfl⟩
  · obtain ⟨i0, hi0, hz0, hz1, hz2⟩ := info_parts info64
    have hpos : 0 < xs.length := List.length_pos_iff.2 h0
    have rx' : Row .u64 w (.slice ax xs.length capx) xs := ⟨ax, capx, rfl, hx2⟩
    have RX := Lib.hid rx'
    have n0 : (0 : Int) ≤ n := by omega
    have nq : n.tdiv 64 = (q : Int) := by rw [Int.tdiv_eq_ediv_of_nonneg n0]; omega
    have ns : n.tmod 64 = (s : Int) := by rw [Int.tmod_eq_emod_of_nonneg n0]; omega
    have nl : ((xs.length : Int) == 0) = false := by rw [beq_eq_false_iff_ne]; omega
    clear hX rx' hx2 h0 hn
    go_enter Tryz.func177, Tryz.ntmps177
    go_wp2_with (at_make; refine wpList_make_full _ rfl _ _ 141 rfl w.heap.size 59 i0 _ 1 Tryz.underlying141 hi0 hz0 hz1 _ _ _ _ (xs.length + q + 1) rfl rfl (by omega) (by omega) (by rw [hz2]; omega) (by unfold maxLen; omega) (Nat.le_refl _) ?_; intro v3 hown0 hgrow0)
    have hownA : v3.ownsRow w.heap.size 59 1 (.slice (some ⟨w.heap.size, 0, none⟩) (xs.length + q + 1) (xs.length + q + 1)) (xs.length + q + 1) ((List.replicate q (0 : Int) ++ ([] ++ 0 :: List.replicate (xs.length - 0) 0)).map (Value.int .u64)) := by
      have h := hown0
      rw [Nat.mul_one, show (Value.int .u64 0).cells = #[.int .u64 0] from rfl, toList_madeCells_one] at h
      rw [List.nil_append, ← List.replicate_succ, ← List.replicate_append_replicate.symm, List.map_replicate]
      rw [show q + (xs.length - 0 + 1) = xs.length + q + 1 by omega]; exact h
    have xA : Ext w v3 := Ext.grown (Ext.refl _) hgrow0 (fun r hr => by cases hr)
    have HA := Lib.hid hownA
    clear hown0 hgrow0 hownA
    have hT0 : xs.length + q + 1 ≤ L + q + 1 := by omega
    generalize hT : xs.length + q + 1 = T at *
    go_loopw [20] (fun iv wr => ∃ (k : Nat) (c : Int) (ws : List Int), k ≤ xs.length ∧ iv = .int .i64 k ∧ UpRel xs s k c ws ∧ wr.ownsRow w.heap.size 59 1 (.slice (some ⟨w.heap.size, 0, none⟩) T T) T ((List.replicate q (0 : Int) ++ (ws ++ c :: List.replicate (xs.length - k) 0)).map (Value.int .u64)) ∧ Ext w wr) (fun iv _ => xs.length - (intOf iv).toNat)
    case atStart => exact ⟨0, 0, [], Nat.zero_le _, rfl, ⟨rfl, fun d hd => absurd hd (by simp), by omega, pow_pos' s, by simp [val]⟩, HA.out, xA⟩
    case round =>
      obtain ⟨k, c, ws, hk, rfl, hU, hown, hext⟩ := hrel
      have c0 := hU.c0
      rcases Nat.lt_or_ge k xs.length with hx | hge
      · obtain ⟨d0, d1⟩ := dX.at k hx
        unfold B64 at d1
        obtain ⟨u1, u2, u3', u4⟩ := up_digit _ c s hs d0 d1 c0 hU.c1
        have hu := hU.step hs hx dX
        rw [← u1, ← u4] at hu
        obtain ⟨bx, ox, rfl, cx1⟩ := RX.out.cellAt k hx
        have cx := hext.cell cx1
        have nx : (k : Int) < (xs.length : Int) := by omega
        have cz := owns_at hown (q + k) (by omega)
        rw [left_getD _ _ _ (xs.length - k) _ hU.len] at cz
        have cz1 := owns_at hown (q + k + 1) (by omega)
        have fz := hown.frozenAt (q + k)
        have fz1 := hown.frozenAt (q + k + 1)
        rw [Nat.add_comm q k] at cz cz1 fz fz1
        have HW := Lib.hid hown
        have UL := Lib.hid hU.len
        have HU := Lib.hid hu
        have nz : (k : Int) + (q : Int) < (T : Int) := by omega
        have nz1 : (k : Int) + (q : Int) + 1 < (T : Int) := by omega
        have HT := Lib.hid hT
        have w9 : IntKind.i64.wrap ((k : Int) + (q : Int)) = (k : Int) + (q : Int) := by rw [IntKind.wrap_i64]; omega
        have wq : IntKind.i64.wrap (q : Int) = (q : Int) := by rw [IntKind.wrap_i64]; omega
        have ws' : IntKind.i64.wrap (s : Int) = (s : Int) := by rw [IntKind.wrap_i64]; omega
        have w7 : (0 : Int) ≤ (k : Int) + (q : Int) := by omega
        have w6 : (0 : Int) ≤ (k : Int) + (q : Int) + 1 := by omega
        have s64 : (s : Int) < 64 := by omega
        have p0 := pow_pos' s
        have oc := or_comm64 c (IntKind.u64.wrap (xs.getD k 0 * 2 ^ s)) c0 (by have := hU.c1; have := pow_mono' (show (1 : Int) ≤ 2 by omega) (show s ≤ 64 by omega); omega) (by rw [IntKind.wrap_u64]; omega) (by rw [IntKind.wrap_u64]; omega)
        have OC := Lib.hid oc
        clear u1 u2 u3' u4 hU hown cx1 hu hT p0 oc
        generalize xs.getD k 0 = xd at *
        generalize (List.replicate q (0 : Int) ++ (ws ++ c :: List.replicate (xs.length - k) 0)).getD (k + q + 1) 0 = zd at *
        go_wp2_with fail
        go_region
        go_wp2_with fail
        have R := own_set (own_set HW.out (k + q) (bits .or .u64 c (IntKind.u64.wrap (xd * 2 ^ s)))) (k + q + 1) (xd / 2 ^ (64 - s))
        rw [show xs.length - k = (xs.length - (k + 1)) + 1 by omega, left_row _ _ _ _ _ _ _ UL.out, OC.out] at R
        rw [OC.out]
        exact ⟨⟨k + 1, _, _, by omega, by go_num, HU.out, R, Ext.q⟩, by simp [intOf]; omega⟩
      · obtain rfl : k = xs.length := by omega
        have hv : val B64 (List.replicate q 0 ++ (ws ++ [c])) = val B64 xs * 2 ^ (64 * q + s) := by
          have e := hU.is
          rw [List.take_length] at e
          rw [zeros_val, val_snoc, hU.len, e, Int.pow_add, Int.pow_mul, Int.mul_left_comm]; rfl
        have hd : Digs B64 (List.replicate q 0 ++ (ws ++ [c])) := by
          intro d hd
          rcases List.mem_append.1 hd with h | h
          · have := List.eq_of_mem_replicate h; subst this; exact ⟨Int.le_refl _, by decide⟩
          · refine hU.digs.snoc c0 ?_ d h
            have := hU.c1
            have p := pow_mono' (show (1 : Int) ≤ 2 by omega) (show s ≤ 64 by omega)
            unfold B64; omega
        have hl : (List.replicate q (0 : Int) ++ (ws ++ [c])).length ≤ L + q + 1 := by simp [hU.len]; omega
        rw [Nat.sub_self, List.replicate_zero] at hown
        have HV := Lib.hid hv
        have HD := Lib.hid hd
        have HL := Lib.hid hl
        have HR := Lib.hid (Row.of_owns hown).1
        have nx : ¬ (xs.length : Int) < (xs.length : Int) := by omega
        clear hv hd hl hU hown hT
        go_wp2_with fail
        refine (wtrim_cap HR.out).mono ?_
        rintro e w' ⟨v4, n3, hcut, rfl, hrow3, rfl, hob, hcap⟩
        have HC := Lib.hid hcap
        clear hcap
        have HN : Hid (New w v4) := Lib.hid (fun b hb => by rw [hob] at hb; simp [Value.ownBlock] at hb; omega)
        have h := NatAt.of_cut hrow3 hcut HD.out HL.out
        rw [HV.out] at h
        have H := Lib.hid h
        clear h hcut hrow3 hob
        go_wp2
        go_ret
        exact ⟨_, rfl, hext, H.out, HN.out, HC.out⟩
theorem wleft_new {m : Value} {x n : Int} {L q s : Nat} {w : World} (hX : NatAt w m x L) (hL : L ≤ 1000000) (hq : q ≤ 1000000) (hs : s < 64) (hn : n = 64 * q + s) :
    Calls Tryz.prog 177 #[m, .int .i64 n] w fun e w' => ∃ v, e = .returned v ∧ Ext w w' ∧ NatAt w' v (x * 2 ^ (64 * q + s)) (L + q + 1) ∧ New w v :=
  (wleft_cap hX hL hq hs hn).mono (by rintro e w' ⟨v, a, b, c, d, -⟩; exact ⟨v, a, b, c, d⟩)
set_option maxHeartbeats 1000000 in
theorem wLeft_ref {u : Value} {x n : Int} {L q s : Nat} {w : World} (hu : IntAt w u x L) (hL : L ≤ 400000) (hq : q ≤ 400000) (hs : s < 64) (hn : n = 64 * q + s) :
    Calls Tryz.prog 104 #[u, .int .i64 n] w fun e w' => ∃ v, e = .returned v ∧ Ext w w' ∧ IntAt w' v (x * 2 ^ (64 * q + s)) (L + q + 1) ∧ NewInt w v := by
  obtain ⟨m1, rfl, hm1⟩ := hu.is
  obtain ⟨a1, k1, c1, rfl, -⟩ := hm1.form
  have H1 := Lib.hid hm1
  have p := pow_pos' (64 * q + s)
  have e2 := (mag_mul' x _ p).1
  have e3 := (mag_mul' x _ p).2
  have e1 : (decide (x < 0) && decide (0 < mag x * 2 ^ (64 * q + s))) = decide (x * 2 ^ (64 * q + s) < 0) := by
    rw [← sg_neg (Int.mul_nonneg (mag_nn x) (Int.le_of_lt p)), ← e2, ← e3, sg_mag]
  have E1 := Lib.hid e1
  have E2 := Lib.hid e2
  have HN' := Lib.hid hn
  clear hu hm1 e1 e2 e3 p hn
  go_enter Tryz.func104, Tryz.ntmps104
  go_wp2_with fail
  go_region_held3 (fun w' => w'.cell? ⟨w.heap.size, 0, none⟩ = some (.bool (decide (x < 0))) ∧ w'.cell? ⟨w.heap.size, 1, none⟩ = some (.slice a1 k1 c1) ∧ w.heap.size + 1 < w'.heap.size ∧ Ext w w')
    (refine ⟨?_, ?_, ?_, ?_⟩ <;> first | (simp [go_sem, *]; done) | omega | (simp at z1; omega) | (simp at z2; omega) | (simp at z3; omega) | (simp at z4; omega) | exact Ext.q)
    (first
      | ((go_at_call 177; refine (wleft_new (H1.out.ext Ext.q) (by omega) (by omega) hs HN'.out).mono ?_; rintro e v1 ⟨q1, rfl, x1, h1⟩; obtain ⟨c1, f1⟩ := x1.rules; have z1 := x1.size; have lq := fun o => c1 (w.heap.size) o (by first | (simp; done) | (simp; omega) | omega); have mq := fun o => f1 (w.heap.size) o (by first | (simp; done) | (simp; omega) | omega); have k1_0_0 := lq 0; have q1_0_0 := mq 0; have k1_0_1 := lq 1; have q1_0_1 := mq 1; clear lq mq; have lq := fun o => c1 (w.heap.size + 1) o (by first | (simp; done) | (simp; omega) | omega); have mq := fun o => f1 (w.heap.size + 1) o (by first | (simp; done) | (simp; omega) | omega); have k1_1_0 := lq 0; have q1_1_0 := mq 0; have k1_1_1 := lq 1; have q1_1_1 := mq 1; clear lq mq; have z1_0 : w.heap.size < v1.heap.size := (by (try simp at z1); omega); have z1_1 : w.heap.size + 1 < v1.heap.size := (by (try simp at z1); omega); (try simp at z1); clear c1 f1; simp [go_sem, *] at k1_0_0 q1_0_0 k1_0_1 q1_0_1 k1_1_0 q1_1_0 k1_1_1 q1_1_1); obtain ⟨h1, n1⟩ := h1; have HH := Lib.hid h1; obtain ⟨a, k, cap, rfl, -⟩ := h1.form; have HN := Lib.hid n1; clear n1 h1)
      | (go_at_call 176; refine (wOf_raw _ HH.out _).mono ?_; rintro e v2 ⟨rfl, x2⟩; obtain ⟨c2, f2⟩ := x2.rules; have z2 := x2.size; have lq := fun o => c2 (w.heap.size) o (by first | (simp; done) | (simp; omega) | omega); have mq := fun o => f2 (w.heap.size) o (by first | (simp; done) | (simp; omega) | omega); have k2_0_0 := lq 0; have q2_0_0 := mq 0; have k2_0_1 := lq 1; have q2_0_1 := mq 1; clear lq mq; have lq := fun o => c2 (w.heap.size + 1) o (by first | (simp; done) | (simp; omega) | omega); have mq := fun o => f2 (w.heap.size + 1) o (by first | (simp; done) | (simp; omega) | omega); have k2_1_0 := lq 0; have q2_1_0 := mq 0; have k2_1_1 := lq 1; have q2_1_1 := mq 1; clear lq mq; have z2_0 : w.heap.size < v2.heap.size := (by (try simp at z2); omega); have z2_1 : w.heap.size + 1 < v2.heap.size := (by (try simp at z2); omega); (try simp at z2); clear c2 f2; simp [go_sem, *] at k2_0_0 q2_0_0 k2_0_1 q2_0_1 k2_1_0 q2_1_0 k2_1_1 q2_1_1))
  all_goals
    have O1 : Hid (Off (w.heap.size + 1) (.slice a k cap)) := Lib.hid (HN.out.off (by simp))
    have NW : Hid (New w (.slice a k cap)) := Lib.hid (fun b hb => by have := HN.out b hb; simp at this; omega)
    go_wp2
    simp [bodyPost, results, Tryz.results104, go_sem, *]
    refine ⟨⟨⟨_, by rw [← E1.out], by rw [E2.out]; exact ((HH.out.ext Ext.q).off O1.out).off O1.out⟩⟩, fun s m e => ?_⟩
    simp at e
    rw [← e.2]; exact NW.out
theorem wLeft_p2 {u : Value} {x n : Int} {L L' : Nat} {w : World} (hu : IntAt w u x L) (hL : L ≤ 400000) (n0 : 0 ≤ n) (n1 : n ≤ 1000) (hl : L + n.toNat / 64 + 1 ≤ L') :
    Calls Tryz.prog 104 #[u, .int .i64 n] w fun e w' => ∃ v, e = .returned v ∧ Ext w w' ∧ IntAt w' v (x * p2 n) L' ∧ NewInt w v := by
  have u := wLeft_ref hu hL (q := n.toNat / 64) (s := n.toNat % 64) (by omega) (by omega) (n := n) (by omega)
  rw [pow_p2] at u
  exact u.mono (by rintro e w' ⟨v, h1, h2, h3, h4⟩; exact ⟨v, h1, h2, h3.mono hl, h4⟩)
theorem wPower_ref {n : Int} {L' : Nat} {w : World} (n0 : 0 ≤ n) (n1 : n ≤ 1000) (hl : 1 + n.toNat / 64 + 1 ≤ L') :
    Calls Tryz.prog 139 #[.int .i64 n] w fun e w' => ∃ v, e = .returned v ∧ Ext w w' ∧ IntAt w' v (p2 n) L' ∧ NewInt w v := by
  have N := Lib.hid (fun u => wOne_new u)
  have P := Lib.hid (fun (u : World) (m : Value) (h : IntAt u m 1 1) => wLeft_p2 h (by omega) n0 n1 hl)
  have p := P.out
  simp only [Int.one_mul] at p
  have P2 := Lib.hid p
  clear P p
  go_enter Tryz.func139, Tryz.ntmps139
  go_wp2_with fail; refine (N.out _).mono ?_; rintro e v1 ⟨q1, rfl, x1, h1⟩; obtain ⟨c1, f1⟩ := x1.rules; have z1 := x1.size; have lq := fun o => c1 (w.heap.size) o (by first | (simp; done) | (simp; omega) | omega); have mq := fun o => f1 (w.heap.size) o (by first | (simp; done) | (simp; omega) | omega); have k1_0_0 := lq 0; have q1_0_0 := mq 0; have k1_0_1 := lq 1; have q1_0_1 := mq 1; clear lq mq; have z1_0 : w.heap.size < v1.heap.size := (by (try simp at z1); omega); (try simp at z1); clear c1 f1; simp [go_sem, *] at k1_0_0 q1_0_0 k1_0_1 q1_0_1
  have H1 := Lib.hid h1.1
  clear h1
  go_wp2_with fail; refine (P2.out _ _ H1.out).mono ?_; rintro e v2 ⟨q2, rfl, x2, h2⟩; obtain ⟨c2, f2⟩ := x2.rules; have z2 := x2.size; have lq := fun o => c2 (w.heap.size) o (by first | (simp; done) | (simp; omega) | omega); have mq := fun o => f2 (w.heap.size) o (by first | (simp; done) | (simp; omega) | omega); have k2_0_0 := lq 0; have q2_0_0 := mq 0; have k2_0_1 := lq 1; have q2_0_1 := mq 1; clear lq mq; have z2_0 : w.heap.size < v2.heap.size := (by (try simp at z2); omega); (try simp at z2); clear c2 f2; simp [go_sem, *] at k2_0_0 q2_0_0 k2_0_1 q2_0_1; (try clear k1_0_0); (try clear q1_0_0); (try clear k1_0_1); (try clear q1_0_1)
  obtain ⟨h2, n2⟩ := h2
  obtain ⟨a, k, c, rfl, hf⟩ := h2.form
  have H2 := Lib.hid hf
  have N2 := Lib.hid (n2 _ _ rfl)
  have O2 := Lib.hid (N2.out.off (g := w.heap.size) (by have := x1.size; simp at *; omega))
  clear h2 n2 hf
  go_wp2
  simp [bodyPost, results, Tryz.results139, go_sem, *]
  exact ⟨Ext.q, IntAt.of rfl (by repeat (first | with_reducible exact H2.out | with_reducible refine NatAt.alloc' ?_ | with_reducible refine NatAt.drew' ?_ | with_reducible refine NatAt.drewN' ?_ | with_reducible refine NatAt.off ?_ O2.out | with_reducible refine NatAt.ext ?_ x1 | with_reducible refine NatAt.ext ?_ x2 | with_reducible refine NatAt.ext ?_ xd | with_reducible refine NatAt.ext ?_ hx | with_reducible refine NatAt.ext ?_ hext)), NewInt.mk (N2.out.old (by have := x1.size; simp at *; omega))⟩
end Go.Proofs.YtkegefnpmijfiaaGreat
