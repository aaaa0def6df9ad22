/- ref90: NTimes. -/
import Derived.Test.YtielcbpjnjdlmaaNLess
import Derived.BigQuiet
namespace Go.Proofs.Ytielcbpjnjdlmaa
open Go.RowKit
theorem val_set (B d : Int) : ∀ (ds : List Int) (i : Nat), i < ds.length → val B (ds.set i d) = val B ds + (d - ds.getD i 0) * B ^ i
  | [], i, h => by simp at h
  | a :: ds, 0, _ => by simp [val]; omega
  | a :: ds, i + 1, h => by
    have e := val_set B d ds i (by simpa using h)
    simp only [List.set_cons_succ, val, e, List.getD_cons_succ, Int.pow_succ]
    rw [Int.mul_add, Int.add_assoc, Int.mul_comm (B ^ i) B, Int.mul_left_comm B (d - ds.getD i 0)]
theorem Digs.set {B d : Int} {ds : List Int} (h : Digs B ds) (i : Nat) (h0 : 0 ≤ d) (h1 : d < B) : Digs B (ds.set i d) := by
  intro x hx
  rcases List.mem_or_eq_of_mem_set hx with hx | rfl
  · exact h x hx
  · exact ⟨h0, h1⟩
theorem getD_set_same (ds : List Int) (i : Nat) (d : Int) (h : i < ds.length) : (ds.set i d).getD i 0 = d := by
  simp [List.getD, h]
theorem getD_set_ne (ds : List Int) (i j : Nat) (d : Int) (h : i ≠ j) : (ds.set i d).getD j 0 = ds.getD j 0 := by
  simp [List.getD, h]
theorem mul_bd32 {x y : Int} (x0 : 0 ≤ x) (x1 : x < 4294967296) (y0 : 0 ≤ y) (y1 : y < 4294967296) : 0 ≤ x * y ∧ x * y ≤ 18446744065119617025 := by
  refine ⟨Int.mul_nonneg x0 y0, ?_⟩
  have a := Int.mul_le_mul_of_nonneg_right (show x ≤ 4294967295 by omega) y0
  omega
/-- Of the first i digits of x each has been taken times y. -/
structure OutRel (xs ys : List Int) (i : Nat) (zs : List Int) : Prop where
  len : zs.length = xs.length + ys.length
  digs : Digs B32 zs
  zero : ∀ j, i + ys.length ≤ j → zs.getD j 0 = 0
  is : val B32 zs = val B32 (xs.take i) * val B32 ys
/-- And of the next one the first k digits of y. -/
structure InRel (xs ys z0 : List Int) (i k : Nat) (c : Int) (zs : List Int) : Prop where
  len : zs.length = xs.length + ys.length
  digs : Digs B32 zs
  c0 : 0 ≤ c
  c1 : c < 4294967296
  same : ∀ j, i + k ≤ j → zs.getD j 0 = z0.getD j 0
  is : val B32 zs + c * B32 ^ (i + k) = val B32 z0 + xs.getD i 0 * val B32 (ys.take k) * B32 ^ i
theorem InRel.start {xs ys z0 : List Int} {i : Nat} (h : OutRel xs ys i z0) : InRel xs ys z0 i 0 0 z0 :=
  ⟨h.len, h.digs, by omega, by omega, fun j _ => rfl, by simp [val]⟩
theorem InRel.step {xs ys z0 zs : List Int} {i k : Nat} {c : Int} (h : InRel xs ys z0 i k c zs) (hi : i < xs.length) (hk : k < ys.length) (hx : Digs B32 xs) (hy : Digs B32 ys) :
    InRel xs ys z0 i (k + 1) ((c + zs.getD (i + k) 0 + xs.getD i 0 * ys.getD k 0) / 4294967296) (zs.set (i + k) ((c + zs.getD (i + k) 0 + xs.getD i 0 * ys.getD k 0) % 4294967296)) := by
  obtain ⟨x0, x1⟩ := getD_bd hx i
  obtain ⟨y0, y1⟩ := getD_bd hy k
  obtain ⟨z0', z1⟩ := getD_bd h.digs (i + k)
  obtain ⟨p0, p1⟩ := mul_bd32 x0 x1 y0 y1
  have c0 := h.c0
  have c1 := h.c1
  refine ⟨by simp [h.len], h.digs.set _ (by omega) (by unfold B32; omega), by omega, by omega, fun j hj => ?_, ?_⟩
  · rw [getD_set_ne _ _ _ _ (by omega)]; exact h.same j (by omega)
  · rw [val_set _ _ _ _ (by rw [h.len]; omega), val_take_succ]
    have e := h.is
    generalize zs.getD (i + k) 0 = z at *
    generalize xs.getD i 0 = x at *
    generalize ys.getD k 0 = y at *
    have e1 : x * (val B32 (ys.take k) + y * B32 ^ k) * B32 ^ i = x * val B32 (ys.take k) * B32 ^ i + x * y * B32 ^ (i + k) := by
      rw [Int.mul_add, Int.add_mul, ← Int.mul_assoc x y, Int.mul_assoc (x * y), ← Int.pow_add, Nat.add_comm k i]
    have hs : c + z + x * y = (c + z + x * y) % 4294967296 + 4294967296 * ((c + z + x * y) / 4294967296) := by omega
    rw [e1]
    generalize x * val B32 (ys.take k) * B32 ^ i = t at *
    generalize x * y = xy at *
    generalize (c + z + xy) % 4294967296 = r at *
    generalize (c + z + xy) / 4294967296 = q at *
    have e2 : q * B32 ^ (i + (k + 1)) = (4294967296 * q) * B32 ^ (i + k) := by
      rw [← Nat.add_assoc, Int.pow_succ, Int.mul_comm (B32 ^ (i + k)), ← Int.mul_assoc, Int.mul_comm q]; rfl
    have e3 : r * B32 ^ (i + k) + (4294967296 * q) * B32 ^ (i + k) = c * B32 ^ (i + k) + z * B32 ^ (i + k) + xy * B32 ^ (i + k) := by
      rw [← Int.add_mul, ← hs, Int.add_mul, Int.add_mul]
    rw [e2, Int.sub_mul]
    generalize B32 ^ (i + k) = p at *
    generalize r * p = rp at *
    generalize 4294967296 * q * p = qp at *
    generalize z * p = zp at *
    generalize c * p = cp at *
    generalize xy * p = xyp at *
    omega
theorem InRel.done {xs ys z0 zs : List Int} {i : Nat} {c : Int} (h : InRel xs ys z0 i ys.length c zs) (h0 : OutRel xs ys i z0) (hi : i < xs.length) :
    OutRel xs ys (i + 1) (zs.set (i + ys.length) c) := by
  have e0 : zs.getD (i + ys.length) 0 = 0 := by rw [h.same _ (Nat.le_refl _)]; exact h0.zero _ (Nat.le_refl _)
  refine ⟨by simp [h.len], h.digs.set _ h.c0 h.c1, fun j hj => ?_, ?_⟩
  · rw [getD_set_ne _ _ _ _ (by omega), h.same _ (by omega)]; exact h0.zero _ (by omega)
  · rw [val_set _ _ _ _ (by rw [h.len]; omega), e0, Int.sub_zero, h.is, h0.is, val_take_succ, List.take_length, Int.add_mul, Int.mul_assoc, Int.mul_assoc, Int.mul_comm (val B32 ys)]
theorem out_start (xs ys : List Int) : OutRel xs ys 0 (List.replicate (xs.length + ys.length) 0) := by
  have z : ∀ j, (List.replicate (xs.length + ys.length) (0 : Int)).getD j 0 = 0 := fun j => by
    rw [List.getD_eq_getElem?_getD, List.getElem?_replicate]; split <;> rfl
  refine ⟨by simp, fun d hd => ?_, fun j _ => z j, ?_⟩
  · have := List.eq_of_mem_replicate hd; subst this; exact ⟨Int.le_refl _, by decide⟩
  · rw [val_zeros _ _ (fun j _ => z j)]; simp [val]
theorem own_drewN {w : World} {base : Nat} {e : TypeId} {size : Nat} {v : Value} {n : Nat} {xs : List Value} (h : w.ownsRow base e size v n xs) (m : Nat) : (w.drewN m).ownsRow base e size v n xs := h
theorem own_set {w : World} {base : Nat} {e : TypeId} {g n cap : Nat} {zs : List Int} {k : IntKind} (h : w.ownsRow base e 1 (.slice (some ⟨g, 0, none⟩) n cap) n (zs.map (Value.int k))) (j : Nat) (d : Int) :
    (w.setCell ⟨g, j, none⟩ (.int k d)).ownsRow base e 1 (.slice (some ⟨g, 0, none⟩) n cap) n ((zs.set j d).map (Value.int k)) := by
  rw [List.map_set]; exact (h.stored j _).1
theorem owns_at {w : World} {base : Nat} {e : TypeId} {g n cap : Nat} {zs : List Int} {k : IntKind} (h : w.ownsRow base e 1 (.slice (some ⟨g, 0, none⟩) n cap) n (zs.map (Value.int k))) (j : Nat) (hj : j < n) :
    w.cell? ⟨g, j, none⟩ = some (.int k (zs.getD j 0)) := by
  have hl : zs.length = n := by simpa using h.1
  rw [h.cellAt j (by omega), List.getElem?_map, List.getD_eq_getElem?_getD, List.getElem?_eq_getElem (by omega)]
  rfl
set_option maxHeartbeats 2000000 in
set_option maxRecDepth 100000 in
theorem NTimes_new {m1 m2 : Value} {x y : Int} {L : Nat} {w : World} (hX : NatAt w m1 x L) (hY : NatAt w m2 y L) (hL : L ≤ 400000) :
    Calls Try.prog 99 #[m1, m2] w fun e w' => ∃ v, e = .returned v ∧ Ext w w' ∧ NatAt w' v (x * y) (2 * L) ∧ New w v := by
  obtain ⟨i0, hi0, hz0, hz1, hz2⟩ := info_parts info32
  go_enter Try.func99, Try.ntmps99
  go_wp2_with fail
  refine (halves_any hX (by omega)).mono ?_
  rintro e v1 ⟨r1, rfl, x1, hx1⟩
  go_wp2_with fail
  refine (halves_any (hY.ext x1) (by omega)).mono ?_
  rintro e v2 ⟨r2, rfl, x2, hy1⟩
  obtain ⟨xs, ⟨ax, capx, rfl, hx2⟩, dX, nX, rfl, lX⟩ := (hx1.ext x2).is
  obtain ⟨ys, ⟨ay, capy, rfl, hy2⟩, dY, nY, rfl, lY⟩ := hy1.is
  have rx' : Row .u32 v2 (.slice ax xs.length capx) xs := ⟨ax, capx, rfl, hx2⟩
  have RX := Lib.hid rx'
  have ry' : Row .u32 v2 (.slice ay ys.length capy) ys := ⟨ay, capy, rfl, hy2⟩
  have RY := Lib.hid ry'
  have x12 := x1.tr x2
  clear rx' ry' hx1 hy1 hx2 hy2 nX nY hX hY x1 x2
  go_wp2_with (at_make; refine wpList_make_full _ rfl _ _ 199 rfl v2.heap.size 201 i0 _ 1 Try.underlying199 hi0 hz0 hz1 _ _ _ _ (xs.length + ys.length) rfl rfl (by omega) (by omega) (by rw [hz2]; omega) (by unfold maxLen; omega) (Nat.le_refl _) ?_; intro v3 hown0 hgrow0)
  have hownA : v3.ownsRow v2.heap.size 201 1 (.slice (some ⟨v2.heap.size, 0, none⟩) (xs.length + ys.length) (xs.length + ys.length)) (xs.length + ys.length) ((List.replicate (xs.length + ys.length) 0).map (Value.int .u32)) := by
    rw [List.map_replicate]; have h := hown0; rw [Nat.mul_one, show (Value.int .u32 0).cells = #[.int .u32 0] from rfl, toList_madeCells_one] at h; exact h
  have xA : Ext v2 v3 := Ext.grown (Ext.refl _) hgrow0 (fun r hr => by cases hr)
  have HA := Lib.hid hownA
  clear hown0 hgrow0 hownA
  go_loopw [8] (fun iv wr => ∃ (i : Nat) (zs : List Int), i ≤ xs.length ∧ iv = .int .i64 i ∧ OutRel xs ys i zs ∧ wr.ownsRow v2.heap.size 201 1 (.slice (some ⟨v2.heap.size, 0, none⟩) (xs.length + ys.length) (xs.length + ys.length)) (xs.length + ys.length) (zs.map (Value.int .u32)) ∧ Ext v2 wr) (fun iv _ => xs.length - (intOf iv).toNat)
  case atStart => exact ⟨0, List.replicate (xs.length + ys.length) 0, Nat.zero_le _, rfl, out_start xs ys, HA.out, xA⟩
  case round =>
    obtain ⟨i, z0, hi, rfl, hO, hown, hext⟩ := hrel
    rcases Nat.lt_or_ge i xs.length with hx | hge
    · have HO := Lib.hid hO
      have HW := Lib.hid hown
      clear hO hown
      go_wp2_with fail
      go_loopw [9, 10] (fun cv kv wq => ∃ (k : Nat) (c : Int) (zs : List Int), k ≤ ys.length ∧ kv = .int .i64 k ∧ cv = .int .u64 c ∧ InRel xs ys z0 i k c zs ∧ wq.ownsRow v2.heap.size 201 1 (.slice (some ⟨v2.heap.size, 0, none⟩) (xs.length + ys.length) (xs.length + ys.length)) (xs.length + ys.length) (zs.map (Value.int .u32)) ∧ Ext v2 wq) (fun _ kv _ => ys.length - (intOf kv).toNat)
      case atStart => exact ⟨0, 0, z0, Nat.zero_le _, rfl, rfl, InRel.start HO.out, HW.out, hext⟩
      case round =>
        clear HW hext
        obtain ⟨k, c, zs, hk, rfl, rfl, hI, hown, hext⟩ := hrel
        have c0 := hI.c0
        have c1 := hI.c1
        rcases Nat.lt_or_ge k ys.length with hy | hye
        · have cz := owns_at hown (i + k) (by omega)
          have fz := hown.frozenAt (i + k)
          obtain ⟨bx, ox, rfl, cx1⟩ := RX.out.cellAt i hx
          have cx := hext.cell cx1
          obtain ⟨by', oy, rfl, cy1⟩ := RY.out.cellAt k hy
          have cy := hext.cell cy1
          obtain ⟨a0, a1⟩ := getD_bd dX i
          obtain ⟨b0, b1⟩ := getD_bd dY k
          obtain ⟨e0, e1⟩ := getD_bd hI.digs (i + k)
          obtain ⟨p0, p1⟩ := mul_bd32 a0 a1 b0 b1
          have ST := Lib.hid (hI.step hx hy dX dY)
          have HW := Lib.hid hown
          have nx : (i : Int) < (xs.length : Int) := by omega
          have ny : (k : Int) < (ys.length : Int) := by omega
          have nz : (i : Int) + (k : Int) < (xs.length : Int) + (ys.length : Int) := by omega
          clear cx1 cy1 hI hown
          generalize xs.getD i 0 = xd at *
          generalize ys.getD k 0 = yd at *
          generalize zs.getD (i + k) 0 = zd at *
          go_wp2_with fail
          go_quiet (fail)
          go_wp2_with fail
          exact ⟨⟨k + 1, _, _, by omega, by go_num, rfl, ST.out, own_set (own_drewN HW.out _) _ _, (by repeat (first | with_reducible exact Ext.refl _ | with_reducible apply Ext.drew | with_reducible apply Ext.drewN | with_reducible apply Ext.alloc | ((with_reducible refine Ext.setCell ?_ ?_ _); rotate_left; focus (first | (simp; done) | (simp; omega) | omega)) | with_reducible refine Ext.tr ?_ x1 | with_reducible refine Ext.tr ?_ x2 | with_reducible refine Ext.tr ?_ x3 | with_reducible refine Ext.tr ?_ x4 | with_reducible refine Ext.tr ?_ x5 | with_reducible refine Ext.tr ?_ x6 | with_reducible refine Ext.tr ?_ x7 | with_reducible refine Ext.tr ?_ x8 | with_reducible refine Ext.tr ?_ x9 | with_reducible refine Ext.tr ?_ xa | with_reducible refine Ext.tr ?_ xb | with_reducible refine Ext.tr ?_ xc | with_reducible refine Ext.tr ?_ xd | with_reducible refine Ext.tr ?_ xe | with_reducible refine Ext.tr ?_ xf | with_reducible refine Ext.tr ?_ xg | with_reducible refine Ext.tr ?_ hx | with_reducible refine Ext.tr ?_ hext | with_reducible assumption))⟩, by simp [intOf]; omega⟩
        · obtain rfl : k = ys.length := by omega
          have cz := owns_at hown (i + ys.length) (by omega)
          have fz := hown.frozenAt (i + ys.length)
          have ST := Lib.hid (hI.done HO.out hx)
          have HW := Lib.hid hown
          have nx : (i : Int) < (xs.length : Int) := by omega
          have nz : (i : Int) + (ys.length : Int) < (xs.length : Int) + (ys.length : Int) := by omega
          clear hI hown
          generalize zs.getD (i + ys.length) 0 = zd at *
          go_wp2_with fail
          exact ⟨⟨i + 1, _, by omega, by go_num, ST.out, own_set HW.out _ _, (by repeat (first | with_reducible exact Ext.refl _ | with_reducible apply Ext.drew | with_reducible apply Ext.drewN | with_reducible apply Ext.alloc | ((with_reducible refine Ext.setCell ?_ ?_ _); rotate_left; focus (first | (simp; done) | (simp; omega) | omega)) | with_reducible refine Ext.tr ?_ x1 | with_reducible refine Ext.tr ?_ x2 | with_reducible refine Ext.tr ?_ x3 | with_reducible refine Ext.tr ?_ x4 | with_reducible refine Ext.tr ?_ x5 | with_reducible refine Ext.tr ?_ x6 | with_reducible refine Ext.tr ?_ x7 | with_reducible refine Ext.tr ?_ x8 | with_reducible refine Ext.tr ?_ x9 | with_reducible refine Ext.tr ?_ xa | with_reducible refine Ext.tr ?_ xb | with_reducible refine Ext.tr ?_ xc | with_reducible refine Ext.tr ?_ xd | with_reducible refine Ext.tr ?_ xe | with_reducible refine Ext.tr ?_ xf | with_reducible refine Ext.tr ?_ xg | with_reducible refine Ext.tr ?_ hx | with_reducible refine Ext.tr ?_ hext | with_reducible assumption))⟩, by simp [intOf]; omega⟩
    · obtain rfl : i = xs.length := by omega
      have HV : Hid (val B32 z0 = val B32 xs * val B32 ys) := Lib.hid (by have e := hO.is; rw [List.take_length] at e; exact e)
      have HD := Lib.hid hO.digs
      have HK : Hid (z0.length ≤ 4 * L) := Lib.hid (by rw [hO.len]; omega)
      have HR := Lib.hid (Row.of_owns hown).1
      clear hO hown
      go_wp2_with fail
      refine (cut_any HR.out).mono ?_
      rintro e w' ⟨v4, n3, hcut, rfl, hrow3, rfl⟩
      have HC := Lib.hid hcut
      clear hcut
      go_wp2_with fail
      refine (whole_new hrow3 (HD.out.take n3) (by rw [List.length_take]; have := HK.out; omega)).mono ?_
      rintro e w' ⟨v5, rfl, x4, h4, hnew⟩
      have HN : Hid (New w v5) := Lib.hid (fun b hb => Nat.le_trans (x12.tr hext).size (hnew b hb))
      clear hnew
      rw [HC.out.val, HV.out] at h4
      have H4 := Lib.hid h4
      clear h4 hrow3
      go_wp2
      go_ret
      exact ⟨_, rfl, (x12.tr hext).tr x4, H4.out.mono (by rw [List.length_take]; have := HK.out; omega), HN.out⟩
theorem NTimes_any {m1 m2 : Value} {x y : Int} {L : Nat} {w : World} (hX : NatAt w m1 x L) (hY : NatAt w m2 y L) (hL : L ≤ 400000) :
    Calls Try.prog 99 #[m1, m2] w fun e w' => ∃ v, e = .returned v ∧ Ext w w' ∧ NatAt w' v (x * y) (2 * L) :=
  (NTimes_new hX hY hL).mono (by rintro e w' ⟨v', h1, h2, h3, -⟩; exact ⟨v', h1, h2, h3⟩)
end Go.Proofs.Ytielcbpjnjdlmaa
