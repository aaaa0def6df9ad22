/- ref90: NLess. -/
import Derived.Test.YtielcbpjnjdlmaaNPlus
namespace Go.Proofs.Ytielcbpjnjdlmaa
open Go.RowKit
theorem val_bd {B : Int} (hB : 0 < B) : ∀ ds : List Int, Digs B ds → 0 ≤ val B ds ∧ val B ds < B ^ ds.length
  | [], _ => by simp [val]
  | d :: ds, h => by
    obtain ⟨h1, h2⟩ := h d (by simp)
    obtain ⟨h3, h4⟩ := val_bd hB ds (fun x hx => h x (by simp [hx]))
    simp only [val, List.length_cons, Int.pow_succ]
    have h5 := Int.mul_nonneg (Int.le_of_lt hB) h3
    have h6 := Int.mul_le_mul_of_nonneg_left (show val B ds + 1 ≤ B ^ ds.length by omega) (Int.le_of_lt hB)
    rw [Int.mul_add, Int.mul_one] at h6
    rw [Int.mul_comm _ B]
    omega
theorem val_top {B : Int} (hB : 0 < B) {ds : List Int} (h : Digs B ds) (hn : Neat ds) (h0 : ds ≠ []) : B ^ (ds.length - 1) ≤ val B ds := by
  rcases hn with hn | hn
  · exact absurd hn h0
  · have hl : 0 < ds.length := List.length_pos_iff.2 h0
    have e := val_take_succ B ds (ds.length - 1)
    rw [List.take_of_length_le (by omega)] at e
    have h1 := (val_bd hB (ds.take (ds.length - 1)) (h.take _)).1
    have h2 := h.at (ds.length - 1) (by omega)
    have h3 : (0 : Int) < B ^ (ds.length - 1) := Int.pow_pos hB
    have h4 := Int.mul_le_mul_of_nonneg_right (show 1 ≤ ds.getD (ds.length - 1) 0 by omega) (Int.le_of_lt h3)
    rw [Int.one_mul] at h4
    omega
theorem pow_mono' {B : Int} (hB : 1 ≤ B) {m n : Nat} (h : m ≤ n) : B ^ m ≤ B ^ n := by
  obtain ⟨k, rfl⟩ := Nat.exists_eq_add_of_le h
  rw [Int.pow_add]
  have h1 : (0 : Int) < B ^ m := Int.pow_pos (by omega)
  have h2 : (0 : Int) < B ^ k := Int.pow_pos (by omega)
  have := Int.mul_le_mul_of_nonneg_left (show (1 : Int) ≤ B ^ k by omega) (Int.le_of_lt h1)
  omega
theorem len_le {B : Int} (hB : 0 < B) {xs ys : List Int} (hx : Digs B xs) (hy : Digs B ys) (ny : Neat ys) (h : val B ys ≤ val B xs) : ys.length ≤ xs.length := by
  by_cases h0 : ys = []
  · subst h0; simp
  · have h1 := (val_bd hB xs hx).2
    have h2 := val_top hB hy ny h0
    rcases Nat.lt_or_ge xs.length ys.length with h3 | h3
    · have := pow_mono' (show 1 ≤ B by omega) (show xs.length ≤ ys.length - 1 by omega)
      omega
    · exact h3
structure LessRel (xs ys : List Int) (k : Nat) (c : Int) (zs : List Int) : Prop where
  len : zs.length = k
  digs : Digs B32 zs
  c0 : -1 ≤ c
  c1 : c ≤ 0
  is : val B32 zs + c * B32 ^ k = val B32 (xs.take k) - val B32 (ys.take k)
theorem LessRel.step {xs ys zs : List Int} {k : Nat} {c : Int} (h : LessRel xs ys k c zs) (hx : Digs B32 xs) (hy : Digs B32 ys) :
    LessRel xs ys (k + 1) ((c + xs.getD k 0 - ys.getD k 0) / 4294967296) (zs ++ [(c + xs.getD k 0 - ys.getD k 0) % 4294967296]) := by
  obtain ⟨x0, x1⟩ := getD_bd hx k
  obtain ⟨y0, y1⟩ := getD_bd hy k
  have c0 := h.c0
  have c1 := h.c1
  refine ⟨by simp [h.len], h.digs.snoc (by omega) (by unfold B32; omega), by omega, by omega, ?_⟩
  rw [val_snoc, val_take_succ, val_take_succ, h.len]
  have e := h.is
  generalize xs.getD k 0 = x at *
  generalize ys.getD k 0 = y at *
  have hs : c + x - y = (c + x - y) % 4294967296 + 4294967296 * ((c + x - y) / 4294967296) := by omega
  generalize (c + x - y) % 4294967296 = r at *
  generalize (c + x - y) / 4294967296 = q at *
  have e2 : q * B32 ^ (k + 1) = (4294967296 * q) * B32 ^ k := by
    rw [Int.pow_succ, Int.mul_comm (B32 ^ k), ← Int.mul_assoc, Int.mul_comm q]; rfl
  have e3 : r * B32 ^ k + (4294967296 * q) * B32 ^ k = c * B32 ^ k + x * B32 ^ k - y * B32 ^ k := by
    rw [← Int.add_mul, ← hs, Int.sub_mul, Int.add_mul]
  rw [e2]
  generalize B32 ^ k = p at *
  generalize r * p = rp at *
  generalize 4294967296 * q * p = qp at *
  omega
theorem fin_row64 {w : World} {base : Nat} {e : TypeId} {v : Value} {n : Nat} {zs : List Int} {s : Int} (h : w.ownsRow base e 1 v (n + 1) (zs.map (Value.int .u32) ++ [.int .u32 (IntKind.u32.wrap (IntKind.u64.wrap s))])) :
    w.ownsRow base e 1 v (n + 1) ((zs ++ [s % 4294967296]).map (Value.int .u32)) := by
  have e : IntKind.u32.wrap (IntKind.u64.wrap s) = s % 4294967296 := by rw [IntKind.wrap_u32, IntKind.wrap_u64]; omega
  rw [List.map_append]; rw [e] at h; exact h
set_option maxHeartbeats 2000000 in
set_option maxRecDepth 100000 in
theorem NLess_new {m1 m2 : Value} {x y : Int} {L : Nat} {w : World} (hX : NatAt w m1 x L) (hY : NatAt w m2 y L) (hxy : y ≤ x) (hL : L ≤ 400000) :
    Calls Try.prog 146 #[m1, m2] w fun e w' => ∃ v, e = .returned v ∧ Ext w w' ∧ NatAt w' v (x - y) L ∧ New w v := by
  obtain ⟨i0, hi0, hz0, hz1, hz2⟩ := info_parts info32
  go_enter Try.func146, Try.ntmps146
  go_wp2_with fail
  refine (halves_any hX (by omega)).mono ?_
  rintro e v1 ⟨r1, rfl, x1, hx1⟩
  go_wp2_with fail
  refine (halves_any (hY.ext x1) (by omega)).mono ?_
  rintro e v2 ⟨r2, rfl, x2, hy1⟩
  obtain ⟨xs, ⟨ax, capx, rfl, hx2⟩, dX, nX, rfl, lX⟩ := (hx1.ext x2).is
  obtain ⟨ys, ⟨ay, capy, rfl, hy2⟩, dY, nY, rfl, lY⟩ := hy1.is
  have rx' : Row .u32 v2 (.slice ax xs.length capx) xs := ⟨ax, capx, rfl, hx2⟩
  have RX := Lib.hid rx'
  have ry' : Row .u32 v2 (.slice ay ys.length capy) ys := ⟨ay, capy, rfl, hy2⟩
  have RY := Lib.hid ry'
  have hll := len_le (by decide) dX dY nY hxy
  have x12 := x1.tr x2
  clear rx' ry' hx1 hy1 hx2 hy2 nX nY hX hY x1 x2
  go_wp2_with fail
  go_loopw [7, 8, 9] (fun l c i wr => ∃ (k : Nat) (ci : Int) (zs : List Int), k ≤ xs.length ∧ i = .int .i64 k ∧ c = .int .i64 ci ∧ LessRel xs ys k ci zs ∧ wr.ownsRow v2.heap.size 201 1 l k (zs.map (Value.int .u32)) ∧ Ext v2 wr) (fun _ _ i _ => xs.length - (intOf i).toNat)
  case atStart => exact ⟨0, 0, [], Nat.zero_le _, rfl, rfl, ⟨rfl, fun d hd => absurd hd (by simp), by omega, by omega, by simp [val]⟩, World.ownsRow_nil _ _ _ _, Ext.refl _⟩
  case round =>
    obtain ⟨k, ci, zs, hk, rfl, rfl, hS, hown, hext⟩ := hrel
    have c0 := hS.c0
    have c1 := hS.c1
    have hrow := hown.lt
    have hbase := hext.size
    rcases Nat.lt_or_ge k xs.length with hx | hge
    · have hn2 : k + 1 ≤ maxLen := by unfold maxLen; omega
      have hn3 : (k + 1) * 4 ≤ 140737488355328 := by omega
      obtain ⟨d0, d1⟩ := getD_bd dX k
      obtain ⟨e0, e1⟩ := getD_bd dY k
      have SR := Lib.hid (hS.step dX dY)
      clear hS
      have nx : (k : Int) < (xs.length : Int) := by omega
      obtain ⟨bx, ox, rfl, cx1⟩ := RX.out.cellAt k hx
      have cx2 := hext.cell cx1
      clear cx1
      rcases Nat.lt_or_ge k ys.length with hy | hy
      · have ny : (k : Int) < (ys.length : Int) := by omega
        obtain ⟨by', oy, rfl, cy1⟩ := RY.out.cellAt k hy
        have cy2 := hext.cell cy1
        clear cy1
        generalize xs.getD k 0 = xd at *
        generalize ys.getD k 0 = yd at *
        go_wp2_with (at_builtin; refine wpList_append_own _ rfl _ _ 199 rfl v2.heap.size 201 i0 _ 1 4 Try.underlying199 hi0 hz0 hz1 hz2 rfl (by decide) _ _ _ rfl (hown.alloc _) ⟨wr.heap.size, 0, none⟩ 1 1 [.int .u32 (IntKind.u32.wrap (IntKind.u64.wrap (ci + xd - yd)))] rfl rfl (news_1 _ _ _) (one_1 _ _) hn2 hn3 (by simp; omega) ?_; intro v' w1 hown1 hgrow _)
        have X : Ext v2 w1 := Ext.grown (hext.alloc _) hgrow (fun r hr => (hrow r hr).1)
        clear hown hgrow hrow
        go_wp2_with fail
        exact ⟨⟨k + 1, _, _, by omega, by go_num, rfl, SR.out, fin_row64 hown1, X⟩, by simp [intOf]; omega⟩
      · have ey : ys.getD k 0 = 0 := by rw [List.getD_eq_getElem?_getD, List.getElem?_eq_none hy]; rfl
        have ny : (ys.length : Int) ≤ (k : Int) := by omega
        rw [ey] at SR
        clear ey
        generalize xs.getD k 0 = xd at *
        have SR' := SR.out
        rw [Int.sub_zero] at SR'
        have SR := Lib.hid SR'
        clear SR'
        go_wp2_with (at_builtin; refine wpList_append_own _ rfl _ _ 199 rfl v2.heap.size 201 i0 _ 1 4 Try.underlying199 hi0 hz0 hz1 hz2 rfl (by decide) _ _ _ rfl (hown.alloc _) ⟨wr.heap.size, 0, none⟩ 1 1 [.int .u32 (IntKind.u32.wrap (IntKind.u64.wrap (ci + xd)))] rfl rfl (news_1 _ _ _) (one_1 _ _) hn2 hn3 (by simp; omega) ?_; intro v' w1 hown1 hgrow _)
        have X : Ext v2 w1 := Ext.grown (hext.alloc _) hgrow (fun r hr => (hrow r hr).1)
        clear hown hgrow hrow
        go_wp2_with fail
        exact ⟨⟨k + 1, _, _, by omega, by go_num, rfl, SR.out, fin_row64 hown1, X⟩, by simp [intOf]; omega⟩
    · have HV : Hid (val B32 zs = val B32 xs - val B32 ys) := by
        refine Lib.hid ?_
        have e := hS.is
        obtain ⟨z1, z2⟩ := val_bd (by decide) zs hS.digs
        rw [List.take_of_length_le (by omega), List.take_of_length_le (by omega)] at e
        rw [hS.len] at z2
        have hc : ci = 0 := by
          rcases Int.lt_or_le ci 0 with h | h
          · rw [show ci = -1 by omega] at e
            omega
          · omega
        rw [hc] at e; omega
      have HD := Lib.hid hS.digs
      have HK : Hid (zs.length ≤ 2 * L) := Lib.hid (by rw [hS.len]; omega)
      have nx : (xs.length : Int) ≤ (k : Int) := by omega
      have HR := Lib.hid (Row.of_owns hown).1
      clear hS hown hrow
      go_wp2_with fail
      refine (cut_any HR.out).mono ?_
      rintro e w' ⟨v3, n3, hcut, rfl, hrow3, rfl⟩
      have HC := Lib.hid hcut
      clear hcut
      go_wp2_with fail
      refine (whole_new hrow3 (HD.out.take n3) (by rw [List.length_take]; have := HK.out; omega)).mono ?_
      rintro e w' ⟨v4, rfl, x4, h4, hnew⟩
      have HN : Hid (New w v4) := Lib.hid (fun b hb => Nat.le_trans (x12.tr hext).size (hnew b hb))
      clear hnew
      rw [HC.out.val, HV.out] at h4
      have H4 := Lib.hid h4
      clear h4 hrow3
      go_wp2
      go_ret
      exact ⟨_, rfl, (x12.tr hext).tr x4, H4.out.mono (by rw [List.length_take]; have := HK.out; omega), HN.out⟩
theorem NLess_any {m1 m2 : Value} {x y : Int} {L : Nat} {w : World} (hX : NatAt w m1 x L) (hY : NatAt w m2 y L) (hxy : y ≤ x) (hL : L ≤ 400000) :
    Calls Try.prog 146 #[m1, m2] w fun e w' => ∃ v, e = .returned v ∧ Ext w w' ∧ NatAt w' v (x - y) L :=
  (NLess_new hX hY hxy hL).mono (by rintro e w' ⟨v', h1, h2, h3, -⟩; exact ⟨v', h1, h2, h3⟩)
end Go.Proofs.Ytielcbpjnjdlmaa
