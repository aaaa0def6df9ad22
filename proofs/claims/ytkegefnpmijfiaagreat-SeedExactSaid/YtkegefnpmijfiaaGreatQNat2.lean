/- ref90: Up2. ref90: NLen, Down2. ref90: Down2. ref90: short. -/
import Derived.Test.YtkegefnpmijfiaaGreatQNats
namespace Go.Proofs.YtkegefnpmijfiaaGreat
open Go.RowKit
structure UpRel (xs : List Int) (s k : Nat) (c : Int) (ws : List Int) : Prop where
  len : ws.length = k
  digs : Digs B64 ws
  c0 : 0 ≤ c
  c1 : c < 2 ^ s
  is : val B64 ws + c * B64 ^ k = val B64 (xs.take k) * 2 ^ s
theorem up_digit (d c : Int) (s : Nat) (hs : s < 64) (_d0 : 0 ≤ d) (d1 : d < 18446744073709551616) (c0 : 0 ≤ c) (c1 : c < 2 ^ s) :
    bits .or .u64 (IntKind.u64.wrap (d * 2 ^ s)) c = (d * 2 ^ s + c) % 18446744073709551616 ∧ (d * 2 ^ s + c) / 18446744073709551616 = d * 2 ^ s / 18446744073709551616 ∧ d * 2 ^ s / 18446744073709551616 < 2 ^ s ∧ d / 2 ^ (64 - s) = d * 2 ^ s / 18446744073709551616 := by
  have p := pow_split s (by omega)
  have p1 := pow_pos' s
  have p2 := pow_pos' (64 - s)
  have e1 : (d * 2 ^ s) % 18446744073709551616 = (d % 2 ^ (64 - s)) * 2 ^ s := by
    rw [← p, Int.mul_comm d, Int.mul_emod_mul_of_pos _ _ p1, Int.mul_comm]
  have e2 : (d * 2 ^ s) / 18446744073709551616 = d / 2 ^ (64 - s) := by
    rw [← p, Int.mul_comm (2 ^ s) (2 ^ (64 - s)), Int.mul_ediv_mul_of_pos_left d (2 ^ (64 - s)) p1]
  have h1 := Int.emod_lt_of_pos d p2
  have h2 := Int.emod_nonneg d (show (2 : Int) ^ (64 - s) ≠ 0 by omega)
  have h3 := Int.mul_le_mul_of_nonneg_right (show d % 2 ^ (64 - s) + 1 ≤ 2 ^ (64 - s) by omega) (Int.le_of_lt p1)
  rw [Int.add_mul, Int.one_mul, Int.mul_comm (2 ^ (64 - s)), p] at h3
  have h4 := Int.mul_nonneg h2 (Int.le_of_lt p1)
  have h5 : d / 2 ^ (64 - s) < 2 ^ s := by
    apply Int.ediv_lt_of_lt_mul p2
    rw [p]; exact d1
  have h6 : (d * 2 ^ s) % 18446744073709551616 % 2 ^ s = 0 := by rw [e1]; exact Int.mul_emod_left _ _
  refine ⟨?_, ?_, by rw [e2]; exact h5, e2.symm⟩
  · rw [IntKind.wrap_u64, or_disj _ c s (by omega) c0 c1 h6 (by omega) (by omega)]
    omega
  · omega
theorem UpRel.step {xs ws : List Int} {s k : Nat} {c : Int} (h : UpRel xs s k c ws) (hs : s < 64) (hk : k < xs.length) (hx : Digs B64 xs) :
    UpRel xs s (k + 1) (xs.getD k 0 * 2 ^ s / 18446744073709551616) (ws ++ [(xs.getD k 0 * 2 ^ s + c) % 18446744073709551616]) := by
  obtain ⟨d0, d1⟩ := hx.at k hk
  obtain ⟨a, b, b2, _⟩ := up_digit _ c s hs d0 d1 h.c0 h.c1
  have p1 := pow_pos' s
  have m0 := Int.mul_nonneg d0 (Int.le_of_lt p1)
  refine ⟨by simp [h.len], h.digs.snoc (by omega) (by unfold B64; omega), by omega, b2, ?_⟩
  rw [val_snoc, val_take_succ, h.len, Int.add_mul, ← h.is, ← b, Int.mul_assoc, Int.mul_comm (B64 ^ k), ← Int.mul_assoc]
  generalize xs.getD k 0 * 2 ^ s = t at *
  have ht : t = (t + c) % 18446744073709551616 + 18446744073709551616 * ((t + c) / 18446744073709551616) - c := by omega
  generalize (t + c) % 18446744073709551616 = r at *
  generalize (t + c) / 18446744073709551616 = q at *
  have e2 : q * B64 ^ (k + 1) = (18446744073709551616 * q) * B64 ^ k := by
    rw [Int.pow_succ, Int.mul_comm (B64 ^ k), ← Int.mul_assoc, Int.mul_comm q]; rfl
  have e3 : t * B64 ^ k = r * B64 ^ k + (18446744073709551616 * q) * B64 ^ k - c * B64 ^ k := by
    rw [← Int.add_mul, ← Int.sub_mul, ← ht]
  rw [e2, e3]
  generalize B64 ^ k = p at *
  omega
theorem zeros_val (B : Int) (q : Nat) (ws : List Int) : val B (List.replicate q 0 ++ ws) = B ^ q * val B ws := by
  induction q with
  | zero => simp
  | succ q ih => rw [List.replicate_succ, List.cons_append, val, ih, Int.pow_succ, Int.zero_add, Int.mul_comm (B ^ q) B, Int.mul_assoc]
theorem up_row {w : World} {base : Nat} {e : TypeId} {v : Value} {q k : Nat} {ws : List Int} {d : Int} (h : w.ownsRow base e 1 v (q + k + 1) ((List.replicate q (0 : Int) ++ ws).map (Value.int .u64) ++ [.int .u64 d])) :
    w.ownsRow base e 1 v (q + (k + 1)) ((List.replicate q (0 : Int) ++ (ws ++ [d])).map (Value.int .u64)) := by
  rw [← List.append_assoc, List.map_append]; exact h
set_option maxHeartbeats 2000000 in
set_option maxRecDepth 100000 in
theorem Up2_new {m : Value} {x n : Int} {L q s : Nat} {w : World} (hX : NatAt w m x L) (hL : L ≤ 1000000) (hq : q ≤ 1000000) (hs : s < 64) (hn : n = 64 * q + s) :
    Calls Tryz.prog 154 #[m, .int .i64 n] w fun e w' => ∃ v, e = .returned v ∧ Ext w w' ∧ NatAt w' v (x * 2 ^ (64 * q + s)) (L + q + 1) ∧ New w v := by
  obtain ⟨xs, ⟨ax, capx, rfl, hx2⟩, dX, nX, rfl, lX⟩ := hX.is
  by_cases h0 : xs = []
  · subst h0
    clear hX
    have HN : Hid (NatAt w (.slice none 0 0) (val B64 [] * 2 ^ (64 * q + s)) (L + q + 1)) := Lib.hid ⟨⟨[], Row.nil _ _, (fun d hd => absurd hd (by simp)), Or.inl rfl, by simp [val], Nat.zero_le _⟩⟩
    go_enter Tryz.func154, Tryz.ntmps154
    go_wp2
    go_ret
    exact ⟨_, rfl, Ext.q, HN.out, fun b hb => by cases hb⟩
  · obtain ⟨i0, hi0, hz0, hz1, hz2⟩ := info_parts info64
    have hpos : 0 < xs.length := List.length_pos_iff.2 h0
    have rx' : Row .u64 w (.slice ax xs.length capx) xs := ⟨ax, capx, rfl, hx2⟩
    have RX := Lib.hid rx'
    have n0 : (0 : Int) ≤ n := by omega
    have nq : n.tdiv 64 = (q : Int) := by rw [Int.tdiv_eq_ediv_of_nonneg n0]; omega
    have ns : n.tmod 64 = (s : Int) := by rw [Int.tmod_eq_emod_of_nonneg n0]; omega
    have nl : ((xs.length : Int) == 0) = false := by rw [beq_eq_false_iff_ne]; omega
    clear hX rx' hx2 h0 hn
    go_enter Tryz.func154, Tryz.ntmps154
    go_wp2_with (at_make; refine wpList_make_full _ rfl _ _ 112 rfl w.heap.size 59 i0 _ 1 Tryz.underlying112 hi0 hz0 hz1 _ _ _ _ q rfl rfl (by omega) (by omega) (by rw [hz2]; omega) (by unfold maxLen; omega) (Nat.le_refl _) ?_; intro v3 hown0 hgrow0)
    have hownA : v3.ownsRow w.heap.size 59 1 (.slice (some ⟨w.heap.size, 0, none⟩) q q) q ((List.replicate q (0 : Int) ++ []).map (Value.int .u64)) := by
      rw [List.append_nil, List.map_replicate]; have h := hown0; rw [Nat.mul_one, show (Value.int .u64 0).cells = #[.int .u64 0] from rfl, toList_madeCells_one] at h; exact h
    have xA : Ext w v3 := Ext.grown (Ext.refl _) hgrow0 (fun r hr => by cases hr)
    have HA := Lib.hid hownA
    clear hown0 hgrow0 hownA
    go_loopw [5, 7, 8] (fun lv cv iv wr => ∃ (k : Nat) (c : Int) (ws : List Int), k ≤ xs.length ∧ iv = .int .i64 k ∧ cv = .int .u64 c ∧ UpRel xs s k c ws ∧ wr.ownsRow w.heap.size 59 1 lv (q + k) ((List.replicate q (0 : Int) ++ ws).map (Value.int .u64)) ∧ Ext w wr) (fun _ _ iv _ => xs.length - (intOf iv).toNat)
    case atStart => exact ⟨0, 0, [], Nat.zero_le _, rfl, rfl, ⟨rfl, fun d hd => absurd hd (by simp), by omega, pow_pos' s, by simp [val]⟩, HA.out, xA⟩
    case round =>
      obtain ⟨k, c, ws, hk, rfl, rfl, hU, hown, hext⟩ := hrel
      have c0 := hU.c0
      have hrow := hown.lt
      have hbase := hext.size
      have hn2 : q + k + 1 ≤ maxLen := by unfold maxLen; omega
      have hn3 : (q + k + 1) * 8 ≤ 140737488355328 := by omega
      rcases Nat.lt_or_ge k xs.length with hx | hge
      · obtain ⟨d0, d1⟩ := dX.at k hx
        unfold B64 at d1
        obtain ⟨u1, u2, u3', u4⟩ := up_digit _ c s hs d0 d1 c0 hU.c1
        have hu := hU.step hs hx dX
        rw [← u1] at hu
        obtain ⟨bx, ox, rfl, cx1⟩ := RX.out.cellAt k hx
        have cx := hext.cell cx1
        have nx : (k : Int) < (xs.length : Int) := by omega
        rcases Nat.eq_zero_or_pos s with hs0 | hs0
        · have hz : xs.getD k 0 * 2 ^ s / 18446744073709551616 = 0 := by rw [hs0, Int.pow_zero, Int.mul_one]; exact Int.ediv_eq_zero_of_lt d0 d1
          rw [hz] at hu
          have ns0 : ¬ (0 : Int) < (s : Int) := by omega
          clear u1 u2 u3' u4 hU hz hs0
          have HU := Lib.hid hu
          clear hu
          generalize xs.getD k 0 = xd at *
          go_wp2_with (at_builtin; refine wpList_append_own _ rfl _ _ 112 rfl w.heap.size 59 i0 _ 1 8 Tryz.underlying112 hi0 hz0 hz1 hz2 rfl (by decide) _ _ _ rfl (hown.alloc _) ⟨wr.heap.size, 0, none⟩ 1 1 [.int .u64 (bits .or .u64 (IntKind.u64.wrap (xd * 2 ^ s)) c)] rfl rfl (news_1 _ _ _) (one_1 _ _) hn2 hn3 (by simp; omega) ?_; intro v' w1 hown1 hgrow _; have X : Ext w w1 := Ext.grown (hext.alloc _) hgrow (fun r hr => (hrow r hr).1); have cx3 := X.cell cx1)
          have hown2 := up_row hown1
          clear hown hown1 hgrow hrow
          exact ⟨⟨k + 1, _, _, by omega, by go_num, rfl, HU.out, hown2, X⟩, by simp [intOf]; omega⟩
        · rw [← u4] at hu
          have ns0 : (0 : Int) < (s : Int) := by omega
          clear u1 u2 u3' u4 hU
          have HU := Lib.hid hu
          clear hu
          generalize xs.getD k 0 = xd at *
          go_wp2_with (at_builtin; refine wpList_append_own _ rfl _ _ 112 rfl w.heap.size 59 i0 _ 1 8 Tryz.underlying112 hi0 hz0 hz1 hz2 rfl (by decide) _ _ _ rfl (hown.alloc _) ⟨wr.heap.size, 0, none⟩ 1 1 [.int .u64 (bits .or .u64 (IntKind.u64.wrap (xd * 2 ^ s)) c)] rfl rfl (news_1 _ _ _) (one_1 _ _) hn2 hn3 (by simp; omega) ?_; intro v' w1 hown1 hgrow _; have X : Ext w w1 := Ext.grown (hext.alloc _) hgrow (fun r hr => (hrow r hr).1); have cx3 := X.cell cx1)
          have hown2 := up_row hown1
          clear hown hown1 hgrow hrow
          exact ⟨⟨k + 1, _, _, by omega, by go_num, rfl, HU.out, hown2, X⟩, by simp [intOf]; omega⟩
      · obtain rfl : k = xs.length := by omega
        have hv : val B64 (List.replicate q 0 ++ (ws ++ [c])) = val B64 xs * 2 ^ (64 * q + s) := by
          have e := hU.is
          rw [List.take_length] at e
          rw [zeros_val, val_snoc, hU.len, e, Int.pow_add, Int.pow_mul, Int.mul_left_comm]; rfl
        have hd : Digs B64 (List.replicate q 0 ++ (ws ++ [c])) := by
          intro d hd
          rcases List.mem_append.1 hd with h | h
          · have := List.eq_of_mem_replicate h; subst this; exact ⟨Int.le_refl _, by decide⟩
          · refine hU.digs.snoc c0 ?_ d h
            have := hU.c1
            have p := pow_mono' (show (1 : Int) ≤ 2 by omega) (show s ≤ 64 by omega)
            unfold B64; omega
        have hl : (List.replicate q (0 : Int) ++ (ws ++ [c])).length ≤ L + q + 1 := by simp [hU.len]; omega
        have HV := Lib.hid hv
        have HD := Lib.hid hd
        have HL := Lib.hid hl
        have nx : ¬ (xs.length : Int) < (xs.length : Int) := by omega
        clear hv hd hl hU
        go_wp2_with (at_builtin; refine wpList_append_own _ rfl _ _ 112 rfl w.heap.size 59 i0 _ 1 8 Tryz.underlying112 hi0 hz0 hz1 hz2 rfl (by decide) _ _ _ rfl (hown.alloc _) ⟨wr.heap.size, 0, none⟩ 1 1 [.int .u64 c] rfl rfl (news_1 _ _ _) (one_1 _ _) hn2 hn3 (by simp; omega) ?_; intro v' w1 hown1 hgrow _)
        have X : Ext w w1 := Ext.grown (hext.alloc _) hgrow (fun r hr => (hrow r hr).1)
        have HR := Lib.hid (Row.of_owns (up_row hown1)).1
        have HO := Lib.hid hown1.lt
        clear hown hown1 hgrow hrow
        go_wp2_with fail
        refine (trim_new HR.out).mono ?_
        rintro e w' ⟨v4, n3, hcut, rfl, hrow3, rfl, hob⟩
        have HN : Hid (New w v4) := Lib.hid (fun b hb => (HO.out b (hob ▸ hb)).1)
        have h := NatAt.of_cut hrow3 hcut HD.out HL.out
        rw [HV.out] at h
        have H := Lib.hid h
        clear h hcut hrow3 hob
        go_wp2
        go_ret
        exact ⟨_, rfl, X, H.out, HN.out⟩
theorem Up2_any {m : Value} {x n : Int} {L q s : Nat} {w : World} (hX : NatAt w m x L) (hL : L ≤ 1000000) (hq : q ≤ 1000000) (hs : s < 64) (hn : n = 64 * q + s) :
    Calls Tryz.prog 154 #[m, .int .i64 n] w fun e w' => ∃ v, e = .returned v ∧ Ext w w' ∧ NatAt w' v (x * 2 ^ (64 * q + s)) (L + q + 1) :=
  (Up2_new hX hL hq hs hn).mono (by rintro e w' ⟨v', h1, h2, h3, -⟩; exact ⟨v', h1, h2, h3⟩)
end Go.Proofs.YtkegefnpmijfiaaGreat
namespace Go.Proofs.YtkegefnpmijfiaaGreat
open Go.RowKit
/-- x has l bits. -/
def BitLen (x : Int) (l : Nat) : Prop := x < 2 ^ l ∧ (l = 0 ∨ 2 ^ (l - 1) ≤ x)
theorem b64_pow (k : Nat) : B64 ^ k = 2 ^ (64 * k) := by
  rw [Int.pow_mul]; rfl
theorem bitlen_top {xs : List Int} {j : Nat} (hx : Digs B64 xs) (h0 : 0 < xs.length) (h1 : xs.getD (xs.length - 1) 0 / 2 ^ j = 0) (h2 : xs.getD (xs.length - 1) 0 / 2 ^ (j - 1) ≠ 0) (hj : 0 < j) :
    BitLen (val B64 xs) (64 * (xs.length - 1) + j) := by
  have e := val_take_succ B64 xs (xs.length - 1)
  rw [show xs.length - 1 + 1 = xs.length by omega, List.take_length] at e
  obtain ⟨a0, a1⟩ := val_bd (by decide) (xs.take (xs.length - 1)) (hx.take _)
  rw [List.length_take, Nat.min_eq_left (by omega)] at a1
  obtain ⟨d0, d1⟩ := hx.at (xs.length - 1) (by omega)
  generalize xs.getD (xs.length - 1) 0 = d at *
  have p := pow_pos' j
  have p' := pow_pos' (j - 1)
  have hd : d < 2 ^ j := by
    have := Int.emod_lt_of_pos d p
    have := Int.mul_ediv_add_emod d (2 ^ j)
    rw [h1] at this; omega
  have hd' : 2 ^ (j - 1) ≤ d := by
    rcases Int.lt_or_le d (2 ^ (j - 1)) with h | h
    · exact absurd (Int.ediv_eq_zero_of_lt d0 h) h2
    · exact h
  rw [e]
  have q : (0 : Int) < B64 ^ (xs.length - 1) := Int.pow_pos (by decide)
  constructor
  · rw [Int.pow_add, ← b64_pow]
    have := Int.mul_le_mul_of_nonneg_right (show d + 1 ≤ 2 ^ j by omega) (Int.le_of_lt q)
    rw [Int.add_mul, Int.one_mul] at this
    rw [Int.mul_comm (B64 ^ _)]; omega
  · right
    rw [show 64 * (xs.length - 1) + j - 1 = 64 * (xs.length - 1) + (j - 1) by omega, Int.pow_add, ← b64_pow]
    have := Int.mul_le_mul_of_nonneg_right hd' (Int.le_of_lt q)
    rw [Int.mul_comm (B64 ^ _)]; omega
theorem div_half (d : Int) (j : Nat) : d / 2 ^ j / 2 = d / 2 ^ (j + 1) := by
  rw [Int.pow_succ, Int.ediv_ediv_of_nonneg (Int.le_of_lt (pow_pos' j))]
set_option maxHeartbeats 1000000 in
theorem NLen_any {m : Value} {x : Int} {L : Nat} {w : World} (hX : NatAt w m x L) (hL : L ≤ 1000000) :
    Calls Tryz.prog 239 #[m] w fun e w' => ∃ l : Nat, e = .returned (.int .i64 l) ∧ w = w' ∧ BitLen x l := by
  obtain ⟨xs, ⟨ax, capx, rfl, hx2⟩, dX, nX, rfl, lX⟩ := hX.is
  have rx' : Row .u64 w (.slice ax xs.length capx) xs := ⟨ax, capx, rfl, hx2⟩
  have RX := Lib.hid rx'
  clear hX rx' hx2
  by_cases h0 : xs = []
  · subst h0
    go_enter Tryz.func239, Tryz.ntmps239
    go_wp2
    go_ret
    exact ⟨0, rfl, rfl, by simp [BitLen, val]⟩
  · have hpos : 0 < xs.length := List.length_pos_iff.2 h0
    obtain ⟨bx, ox, rfl, cx⟩ := RX.out.cellAt (xs.length - 1) (by omega)
    have nl : ((xs.length : Int) == 0) = false := by rw [beq_eq_false_iff_ne]; omega
    have en : ((xs.length - 1 : Nat) : Int) = (xs.length : Int) - 1 := by omega
    obtain ⟨d0, d1⟩ := dX.at (xs.length - 1) (by omega)
    unfold B64 at d1
    have ht : xs.getD (xs.length - 1) 0 ≠ 0 := by
      rcases nX with h | h
      · exact absurd h h0
      · exact h
    have HB := Lib.hid (fun j => bitlen_top (j := j) dX hpos)
    have HT := Lib.hid ht
    clear nX h0 ht
    generalize xs.getD (xs.length - 1) 0 = d at *
    go_enter Tryz.func239, Tryz.ntmps239
    go_wp2_with fail
    go_loop [3, 4] (fun nv xv => ∃ j : Nat, j ≤ 64 ∧ nv = .int .i64 (64 * ((xs.length : Int) - 1) + j) ∧ xv = .int .u64 (d / 2 ^ j) ∧ (j = 0 ∨ d / 2 ^ (j - 1) ≠ 0)) (fun _ xv => (intOf xv).toNat)
    case atStart => exact ⟨0, by omega, by simp, by simp, .inl rfl⟩
    case round =>
      obtain ⟨j, hj64, rfl, rfl, hj⟩ := hrel
      have HJ := Lib.hid hj
      have hy0 : 0 ≤ d / 2 ^ j := Int.ediv_nonneg d0 (Int.le_of_lt (pow_pos' j))
      have hy1 : d / 2 ^ j ≤ d := Int.ediv_le_self _ d0
      have hh := Lib.hid (div_half d j)
      by_cases hz : d / 2 ^ j = 0
      · have hj0 : 0 < j := by
          rcases Nat.eq_zero_or_pos j with h | h
          · subst h; simp at hz; exact absurd hz HT.out
          · exact h
        have hp : d / 2 ^ (j - 1) ≠ 0 := by
          rcases HJ.out with h | h
          · omega
          · exact h
        have R := Lib.hid (HB.out j hz hp hj0)
        have hb : (d / 2 ^ j != 0) = false := by simp [hz]
        clear hz hp hj hj0
        generalize d / 2 ^ j = y at *
        go_wp2
        go_ret
        refine ⟨64 * (xs.length - 1) + j, ?_, rfl, R.out⟩
        have e : ((64 * (xs.length - 1) + j : Nat) : Int) = 64 * ((xs.length : Int) - 1) + (j : Int) := by omega
        rw [e]; rfl
      · have hj64' : j < 64 := by
          rcases Nat.lt_or_ge j 64 with h | h
          · exact h
          · obtain rfl : j = 64 := by omega
            exact absurd (Int.ediv_eq_zero_of_lt d0 d1) hz
        have hb : (d / 2 ^ j != 0) = true := by simp [hz]
        have HZ := Lib.hid hz
        clear hz hj
        have hk : (j : Int) < 64 := by omega
        generalize hyy : d / 2 ^ j = y at *
        have HY := Lib.hid hyy
        clear hyy
        go_wp2_with fail
        refine ⟨⟨j + 1, by omega, by go_num, by rw [hh.out], .inr (by rw [Nat.add_sub_cancel, HY.out]; exact HZ.out)⟩, ?_⟩
        have := HZ.out
        simp [intOf]; omega
end Go.Proofs.YtkegefnpmijfiaaGreat
namespace Go.Proofs.YtkegefnpmijfiaaGreat
open Go.RowKit
/-- Digits over 2^s. -/
def dn (s : Nat) : List Int → List Int
  | [] => []
  | [a] => [a / 2 ^ s]
  | a :: b :: ds => (a / 2 ^ s + (b % 2 ^ s) * 2 ^ (64 - s)) :: dn s (b :: ds)
theorem dn_length (s : Nat) : ∀ ds : List Int, (dn s ds).length = ds.length
  | [] => rfl
  | [a] => rfl
  | a :: b :: ds => by
    have := dn_length s (b :: ds)
    simp only [dn, List.length_cons] at this ⊢
    omega
theorem dn_getD (s : Nat) : ∀ (ds : List Int) (k : Nat), k < ds.length → (dn s ds).getD k 0 = if k + 1 < ds.length then ds.getD k 0 / 2 ^ s + (ds.getD (k + 1) 0 % 2 ^ s) * 2 ^ (64 - s) else ds.getD k 0 / 2 ^ s
  | [], k, h => by simp at h
  | [a], k, h => by
    obtain rfl : k = 0 := by simpa using h
    simp [dn]
  | a :: b :: ds, 0, h => by simp [dn]
  | a :: b :: ds, k + 1, h => by
    have := dn_getD s (b :: ds) k (by simpa using h)
    simp only [dn, List.getD_cons_succ, List.length_cons, Nat.add_lt_add_iff_right] at this ⊢
    exact this
theorem dn_val {s : Nat} (hs : s < 64) : ∀ ds : List Int, val B64 (dn s ds) = val B64 ds / 2 ^ s
  | [] => by simp [dn, val]
  | [a] => by simp [dn, val]
  | a :: b :: ds => by
    have ih := dn_val hs (b :: ds)
    have p := pow_split s (by omega)
    have p1 := pow_pos' s
    have eb : val B64 (b :: ds) % 2 ^ s = b % 2 ^ s := by
      rw [val, show B64 = 2 ^ s * 2 ^ (64 - s) from p.symm, Int.mul_assoc, Int.add_mul_emod_self_left]
    have e1 : val B64 (a :: b :: ds) = a + B64 * val B64 (b :: ds) := rfl
    have e2 : val B64 (dn s (a :: b :: ds)) = a / 2 ^ s + (b % 2 ^ s) * 2 ^ (64 - s) + B64 * val B64 (dn s (b :: ds)) := rfl
    rw [e1, e2, ih]
    clear e1 e2 ih
    generalize val B64 (b :: ds) = V at *
    rw [show B64 = 2 ^ s * 2 ^ (64 - s) from p.symm, Int.mul_assoc (2 ^ s) _ V, Int.add_mul_ediv_left _ _ (by omega), ← eb]
    have e := Int.mul_ediv_add_emod V (2 ^ s)
    generalize V / 2 ^ s = Q at *
    generalize V % 2 ^ s = R at *
    rw [← e, Int.mul_add]
    rw [Int.mul_comm R, Int.mul_comm (2 ^ s) (2 ^ (64 - s)), Int.mul_assoc]
    omega
theorem dn_digit {s : Nat} (hs : s < 64) {a b : Int} (a0 : 0 ≤ a) (a1 : a < 18446744073709551616) (_b0 : 0 ≤ b) :
    0 ≤ a / 2 ^ s ∧ a / 2 ^ s < 2 ^ (64 - s) ∧ 0 ≤ (b % 2 ^ s) * 2 ^ (64 - s) ∧ (b % 2 ^ s) * 2 ^ (64 - s) + 2 ^ (64 - s) ≤ 18446744073709551616 ∧ IntKind.u64.wrap (b * 2 ^ (64 - s)) = (b % 2 ^ s) * 2 ^ (64 - s) ∧
    bits .or .u64 (a / 2 ^ s) (IntKind.u64.wrap (b * 2 ^ (64 - s))) = a / 2 ^ s + (b % 2 ^ s) * 2 ^ (64 - s) := by
  have p := pow_split s (by omega)
  have p1 := pow_pos' s
  have p2 := pow_pos' (64 - s)
  have h0 := Int.ediv_nonneg a0 (Int.le_of_lt p1)
  have h1 : a / 2 ^ s < 2 ^ (64 - s) := by
    apply Int.ediv_lt_of_lt_mul p1
    rw [Int.mul_comm, p]; exact a1
  have r0 := Int.emod_nonneg b (show (2 : Int) ^ s ≠ 0 by omega)
  have r1 := Int.emod_lt_of_pos b p1
  have h2 := Int.mul_nonneg r0 (Int.le_of_lt p2)
  have h3 := Int.mul_le_mul_of_nonneg_right (show b % 2 ^ s + 1 ≤ 2 ^ s by omega) (Int.le_of_lt p2)
  rw [Int.add_mul, Int.one_mul, p] at h3
  have e1 : IntKind.u64.wrap (b * 2 ^ (64 - s)) = (b % 2 ^ s) * 2 ^ (64 - s) := by
    rw [IntKind.wrap_u64, ← p, Int.mul_comm b, Int.mul_comm (2 ^ s), Int.mul_emod_mul_of_pos _ _ p2, Int.mul_comm]
  refine ⟨h0, h1, h2, by omega, e1, ?_⟩
  rw [e1, or_comm64 _ _ h0 (by omega) h2 (by omega), or_disj _ _ (64 - s) h2 h0 h1 (Int.mul_emod_left _ _) (by omega) (by omega)]
  omega
theorem dn_digs {s : Nat} (hs : s < 64) : ∀ ds : List Int, Digs B64 ds → Digs B64 (dn s ds)
  | [], _ => fun d hd => absurd hd (by simp [dn])
  | [a], h => by
    obtain ⟨a0, a1⟩ := h a (by simp)
    obtain ⟨h0, h1, h2, h3, _⟩ := dn_digit hs a0 (by exact a1) (Int.le_refl 0)
    intro d hd
    simp only [dn, List.mem_singleton] at hd
    subst hd
    unfold B64; omega
  | a :: b :: ds, h => by
    obtain ⟨a0, a1⟩ := h a (by simp)
    obtain ⟨b0, b1⟩ := h b (by simp)
    obtain ⟨h0, h1, h2, h3, _⟩ := dn_digit hs a0 (by exact a1) b0
    have ih := dn_digs hs (b :: ds) (fun x hx => h x (by simp only [List.mem_cons] at hx ⊢; exact Or.inr hx))
    intro d hd
    rw [dn, List.mem_cons] at hd
    rcases hd with rfl | hd
    · unfold B64; omega
    · exact ih d hd
theorem drop_getD (xs : List Int) (q k : Nat) : (xs.drop q).getD k 0 = xs.getD (q + k) 0 := by
  simp [List.getD]
theorem dn_up {xs : List Int} {q s n : Nat} (hx : Digs B64 xs) (h : n = 64 * q + s) (hk : q ≤ xs.length) :
    val B64 (xs.drop q) / 2 ^ s = val B64 xs / 2 ^ n := by
  have e := val_split B64 xs q hk
  obtain ⟨a0, a1⟩ := val_bd (by decide) (xs.take q) (hx.take _)
  rw [List.length_take, Nat.min_eq_left hk] at a1
  have p : (0 : Int) < B64 ^ q := Int.pow_pos (by decide)
  have e1 : val B64 xs / B64 ^ q = val B64 (xs.drop q) := by
    rw [e, Int.add_mul_ediv_left _ _ (by omega), Int.ediv_eq_zero_of_lt a0 a1, Int.zero_add]
  rw [← e1, b64_pow, Int.ediv_ediv_of_nonneg (Int.le_of_lt (pow_pos' _)), ← Int.pow_add, h]
theorem len_of_bits {xs : List Int} {q l : Nat} (hl : BitLen (val B64 xs) l) (hx : Digs B64 xs) (h : 64 * q < l) : q < xs.length := by
  rcases Nat.lt_or_ge q xs.length with h1 | h1
  · exact h1
  · have h2 := (val_bd (by decide) xs hx).2
    rw [b64_pow] at h2
    have h3 := pow_mono' (show (1 : Int) ≤ 2 by omega) (show 64 * xs.length ≤ l - 1 by omega)
    rcases hl.2 with h4 | h4 <;> omega
set_option maxHeartbeats 2000000 in
set_option maxRecDepth 100000 in
theorem Down2_new {m : Value} {x n : Int} {L q s : Nat} {w : World} (hX : NatAt w m x L) (hL : L ≤ 1000000) (hs : s < 64) (hn : n = 64 * q + s) :
    Calls Tryz.prog 185 #[m, .int .i64 n] w fun e w' => ∃ v, e = .returned v ∧ Ext w w' ∧ NatAt w' v (x / 2 ^ (64 * q + s)) L ∧ New w v := by
  have n0 : (0 : Int) ≤ n := by omega
  have nq : n.tdiv 64 = (q : Int) := by rw [Int.tdiv_eq_ediv_of_nonneg n0]; omega
  have ns : n.tmod 64 = (s : Int) := by rw [Int.tmod_eq_emod_of_nonneg n0]; omega
  go_enter Tryz.func185, Tryz.ntmps185
  go_wp2_with fail
  refine (NLen_any hX hL).mono ?_
  rintro e w' ⟨l, rfl, rfl, hl⟩
  rcases Nat.lt_or_ge (64 * q + s) l with hnl | hnl
  · obtain ⟨xs, ⟨ax, capx, rfl, hx2⟩, dX, nX, rfl, lX⟩ := hX.is
    obtain ⟨i0, hi0, hz0, hz1, hz2⟩ := info_parts info64
    have rx' : Row .u64 w (.slice ax xs.length capx) xs := ⟨ax, capx, rfl, hx2⟩
    have RX := Lib.hid rx'
    have hql := len_of_bits hl dX (show 64 * q < l by omega)
    have HV : Hid (val B64 (dn s (xs.drop q)) = val B64 xs / 2 ^ (64 * q + s)) := Lib.hid (by rw [dn_val hs, dn_up dX rfl (by omega)])
    have HD := Lib.hid (dn_digs hs (xs.drop q) (fun d hd => dX d (List.mem_of_mem_drop hd)))
    have nnl : n < (l : Int) := by omega
    clear hX rx' hx2 hl nX hn
    go_wp2_with fail
    go_loopw [6, 7] (fun lv iv wr => ∃ i k : Nat, i = q + k ∧ i ≤ xs.length ∧ iv = .int .i64 i ∧ wr.ownsRow w.heap.size 59 1 lv k (((dn s (xs.drop q)).take k).map (Value.int .u64)) ∧ Ext w wr) (fun _ iv _ => xs.length - (intOf iv).toNat)
    case atStart => exact ⟨q, 0, rfl, by omega, rfl, World.ownsRow_nil _ _ _ _, Ext.refl _⟩
    case round =>
      obtain ⟨i, k, hik, hi, rfl, hown, hext⟩ := hrel
      have hrow := hown.lt
      have hbase := hext.size
      have hn2 : k + 1 ≤ maxLen := by unfold maxLen; omega
      have hn3 : (k + 1) * 8 ≤ 140737488355328 := by omega
      rcases Nat.lt_or_ge i xs.length with hx | hge
      · obtain ⟨d0, d1⟩ := dX.at i hx
        unfold B64 at d1
        obtain ⟨bx, ox, rfl, cx1⟩ := RX.out.cellAt i hx
        have cx := hext.cell cx1
        have nx : (i : Int) < (xs.length : Int) := by omega
        have hdl : (xs.drop q).length = xs.length - q := List.length_drop
        have hg := dn_getD s (xs.drop q) k (by omega)
        have ht := take_succ_getD (dn s (xs.drop q)) k (by rw [dn_length]; omega)
        rw [drop_getD, drop_getD, ← hik, ← Nat.add_assoc, ← hik, hdl] at hg
        rcases Nat.lt_or_ge (i + 1) xs.length with hx2 | hx2
        · obtain ⟨e0, e1⟩ := dX.at (i + 1) hx2
          unfold B64 at e1
          obtain ⟨b2, o2, heq, cy1⟩ := RX.out.cellAt (i + 1) hx2
          simp only [Option.some.injEq, Addr.mk.injEq, and_true] at heq
          obtain ⟨rfl, rfl⟩ := heq
          have cy := hext.cell cy1
          rw [if_pos (by omega)] at hg
          obtain ⟨u1, u2, u3', u4, u5, u6⟩ := dn_digit hs d0 d1 e0
          have nx2 : (i : Int) + 1 < (xs.length : Int) := by omega
          rcases Nat.eq_zero_or_pos s with hs0 | hs0
          · have ns0 : ¬ (0 : Int) < (s : Int) := by omega
            have hg2 : (dn s (xs.drop q)).getD k 0 = xs.getD i 0 / 2 ^ s := by rw [hg, hs0]; simp [Int.emod_one]
            rw [hg2] at ht
            have HT := Lib.hid ht
            have HI := Lib.hid hik
            clear u1 u2 u3' u4 u5 u6 hg hg2 ht hik hs0 hdl
            generalize xs.getD i 0 = xd at *
            generalize xs.getD (i + 1) 0 = yd at *
            go_wp2_with (at_builtin; refine wpList_append_own _ rfl _ _ 112 rfl w.heap.size 59 i0 _ 1 8 Tryz.underlying112 hi0 hz0 hz1 hz2 rfl (by decide) _ _ _ rfl (hown.alloc _) ⟨wr.heap.size, 0, none⟩ 1 1 [.int .u64 (xd / 2 ^ s)] rfl rfl (news_1 _ _ _) (one_1 _ _) hn2 hn3 (by simp; omega) ?_; intro v' w1 hown1 hgrow _; have X : Ext w w1 := Ext.grown (hext.alloc _) hgrow (fun r hr => (hrow r hr).1))
            have hown2 : w1.ownsRow w.heap.size 59 1 v' (k + 1) (((dn s (xs.drop q)).take (k + 1)).map (Value.int .u64)) := by
              rw [HT.out, List.map_append]; exact hown1
            have hi2 := HI.out
            clear hown hown1 hgrow hrow
            go_wp2_with fail
            exact ⟨⟨i + 1, k + 1, by omega, by omega, by go_num, hown2, X⟩, by simp [intOf]; omega⟩
          · have ns0 : (0 : Int) < (s : Int) := by omega
            rw [← u6] at hg
            rw [hg] at ht
            have HT := Lib.hid ht
            have HI := Lib.hid hik
            clear u1 u2 u3' u4 u5 u6 hg ht hik hs0 hdl
            generalize xs.getD i 0 = xd at *
            generalize xs.getD (i + 1) 0 = yd at *
            go_wp2_with (at_builtin; refine wpList_append_own _ rfl _ _ 112 rfl w.heap.size 59 i0 _ 1 8 Tryz.underlying112 hi0 hz0 hz1 hz2 rfl (by decide) _ _ _ rfl (hown.alloc _) ⟨wr.heap.size, 0, none⟩ 1 1 [.int .u64 (bits .or .u64 (xd / 2 ^ s) (IntKind.u64.wrap (yd * 2 ^ (64 - s))))] rfl rfl (news_1 _ _ _) (one_1 _ _) hn2 hn3 (by simp; omega) ?_; intro v' w1 hown1 hgrow _; have X : Ext w w1 := Ext.grown (hext.alloc _) hgrow (fun r hr => (hrow r hr).1))
            have hown2 : w1.ownsRow w.heap.size 59 1 v' (k + 1) (((dn s (xs.drop q)).take (k + 1)).map (Value.int .u64)) := by
              rw [HT.out, List.map_append]; exact hown1
            have hi2 := HI.out
            clear hown hown1 hgrow hrow
            go_wp2_with fail
            exact ⟨⟨i + 1, k + 1, by omega, by omega, by go_num, hown2, X⟩, by simp [intOf]; omega⟩
        · rw [if_neg (by omega)] at hg
          rw [hg] at ht
          have HT := Lib.hid ht
          have HI := Lib.hid hik
          have nx2 : ¬ (i : Int) + 1 < (xs.length : Int) := by omega
          clear hg ht hik hdl
          generalize xs.getD i 0 = xd at *
          rcases Nat.eq_zero_or_pos s with hs0 | hs0
          · have ns0 : ¬ (0 : Int) < (s : Int) := by omega
            clear hs0
            go_wp2_with (at_builtin; refine wpList_append_own _ rfl _ _ 112 rfl w.heap.size 59 i0 _ 1 8 Tryz.underlying112 hi0 hz0 hz1 hz2 rfl (by decide) _ _ _ rfl (hown.alloc _) ⟨wr.heap.size, 0, none⟩ 1 1 [.int .u64 (xd / 2 ^ s)] rfl rfl (news_1 _ _ _) (one_1 _ _) hn2 hn3 (by simp; omega) ?_; intro v' w1 hown1 hgrow _; have X : Ext w w1 := Ext.grown (hext.alloc _) hgrow (fun r hr => (hrow r hr).1))
            have hown2 : w1.ownsRow w.heap.size 59 1 v' (k + 1) (((dn s (xs.drop q)).take (k + 1)).map (Value.int .u64)) := by
              rw [HT.out, List.map_append]; exact hown1
            have hi2 := HI.out
            clear hown hown1 hgrow hrow
            go_wp2_with fail
            exact ⟨⟨i + 1, k + 1, by omega, by omega, by go_num, hown2, X⟩, by simp [intOf]; omega⟩
          · have ns0 : (0 : Int) < (s : Int) := by omega
            clear hs0
            go_wp2_with (at_builtin; refine wpList_append_own _ rfl _ _ 112 rfl w.heap.size 59 i0 _ 1 8 Tryz.underlying112 hi0 hz0 hz1 hz2 rfl (by decide) _ _ _ rfl (hown.alloc _) ⟨wr.heap.size, 0, none⟩ 1 1 [.int .u64 (xd / 2 ^ s)] rfl rfl (news_1 _ _ _) (one_1 _ _) hn2 hn3 (by simp; omega) ?_; intro v' w1 hown1 hgrow _; have X : Ext w w1 := Ext.grown (hext.alloc _) hgrow (fun r hr => (hrow r hr).1))
            have hown2 : w1.ownsRow w.heap.size 59 1 v' (k + 1) (((dn s (xs.drop q)).take (k + 1)).map (Value.int .u64)) := by
              rw [HT.out, List.map_append]; exact hown1
            have hi2 := HI.out
            clear hown hown1 hgrow hrow
            go_wp2_with fail
            exact ⟨⟨i + 1, k + 1, by omega, by omega, by go_num, hown2, X⟩, by simp [intOf]; omega⟩
      · have hik2 : k = (xs.drop q).length := by rw [List.length_drop]; omega
        have hown2 := hown
        rw [hik2, List.take_of_length_le (by rw [dn_length]; omega)] at hown2
        have HR := Lib.hid (Row.of_owns hown2).1
        have HO := Lib.hid hown2.lt
        have HLn : Hid ((dn s (xs.drop q)).length ≤ L) := Lib.hid (by rw [dn_length, List.length_drop]; omega)
        have nx : ¬ (i : Int) < (xs.length : Int) := by omega
        clear hown hown2 hrow hik hik2
        go_wp2_with fail
        refine (trim_new HR.out).mono ?_
        rintro e w' ⟨v4, n3, hcut, rfl, hrow3, rfl, hob⟩
        have HN : Hid (New w v4) := Lib.hid (fun b hb => (HO.out b (hob ▸ hb)).1)
        have h := NatAt.of_cut hrow3 hcut HD.out HLn.out
        rw [HV.out] at h
        have H := Lib.hid h
        clear h hcut hrow3 hob
        go_wp2
        go_ret
        exact ⟨_, rfl, hext, H.out, HN.out⟩
  · have hx0 : x / 2 ^ (64 * q + s) = 0 := by
      refine Int.ediv_eq_zero_of_lt hX.nn ?_
      have := pow_mono' (show (1 : Int) ≤ 2 by omega) hnl
      have := hl.1
      omega
    have H : Hid (NatAt w (.slice none 0 0) (x / 2 ^ (64 * q + s)) L) := Lib.hid (by rw [hx0]; exact ⟨⟨[], Row.nil _ _, (fun d hd => absurd hd (by simp)), Or.inl rfl, rfl, Nat.zero_le _⟩⟩)
    have nnl : (l : Int) ≤ n := by omega
    clear hx0 hl
    go_wp2
    go_ret
    exact ⟨_, rfl, Ext.q, H.out, fun b hb => by cases hb⟩
end Go.Proofs.YtkegefnpmijfiaaGreat
namespace Go.Proofs.YtkegefnpmijfiaaGreat
open Go.RowKit
structure ShRel (xs : List Int) (d : Int) (k : Nat) (r : Int) (zs : List Int) : Prop where
  len : zs.length = xs.length
  digs : Digs B32 zs
  r0 : 0 ≤ r
  r1 : r < d
  is : val B32 (xs.drop k) = d * val B32 (zs.drop k) + r
theorem drop_cons_getD (ds : List Int) (j : Nat) (h : j < ds.length) : ds.drop j = ds.getD j 0 :: ds.drop (j + 1) := by
  rw [List.drop_eq_getElem_cons h, List.getD_eq_getElem?_getD, List.getElem?_eq_getElem h]; rfl
theorem ShRel.step {xs zs : List Int} {d r : Int} {k j : Nat} (h : ShRel xs d k r zs) (hj : j + 1 = k) (hk : k ≤ xs.length) (hx : Digs B32 xs) (hd : 0 < d) (hd1 : d ≤ 4294967296) :
    ShRel xs d j ((r * 4294967296 + xs.getD j 0) % d) (zs.set j ((r * 4294967296 + xs.getD j 0) / d)) ∧ 0 ≤ (r * 4294967296 + xs.getD j 0) / d ∧ (r * 4294967296 + xs.getD j 0) / d < 4294967296 := by
  obtain ⟨x0, x1⟩ := getD_bd hx j
  have r0 := h.r0
  have r1 := h.r1
  have b0 := Int.ediv_nonneg (show 0 ≤ r * 4294967296 + xs.getD j 0 by omega) (Int.le_of_lt hd)
  have b1 : (r * 4294967296 + xs.getD j 0) / d < 4294967296 := by
    apply Int.ediv_lt_of_lt_mul hd
    have := Int.mul_le_mul_of_nonneg_right (show r + 1 ≤ d by omega) (show (0 : Int) ≤ 4294967296 by omega)
    rw [Int.mul_comm 4294967296]; omega
  refine ⟨⟨by simp [h.len], h.digs.set _ b0 (by unfold B32; omega), Int.emod_nonneg _ (by omega), Int.emod_lt_of_pos _ hd, ?_⟩, b0, b1⟩
  have e1 : (zs.set j ((r * 4294967296 + xs.getD j 0) / d)).drop j = ((r * 4294967296 + xs.getD j 0) / d) :: zs.drop (j + 1) := by
    rw [drop_cons_getD _ j (by rw [List.length_set, h.len]; omega), getD_set_same _ _ _ (by rw [h.len]; omega), List.drop_set_of_lt (by omega)]
  have e := h.is
  rw [e1, drop_cons_getD xs j (by omega), hj]
  simp only [val]
  rw [e]
  have e2 := Int.mul_ediv_add_emod (r * 4294967296 + xs.getD j 0) d
  generalize (r * 4294967296 + xs.getD j 0) / d = q at *
  generalize (r * 4294967296 + xs.getD j 0) % d = m at *
  generalize xs.getD j 0 = x at *
  rw [Int.mul_add, Int.mul_add d q, Int.mul_left_comm]
  unfold B32
  omega
theorem or_lo (a b : Int) (a0 : 0 ≤ a) (a1 : a < 4294967296) (b0 : 0 ≤ b) (b1 : b < 4294967296) : bits .or .u64 (a * 4294967296) b = a * 4294967296 + b :=
  or_disj (a * 4294967296) b 32 (by omega) b0 (by omega) (by omega) (by omega) (by omega)
set_option maxHeartbeats 2000000 in
set_option maxRecDepth 100000 in
theorem short_any {m : Value} {x d : Int} {L : Nat} {w : World} (hX : HalfAt w m x L) (hL : L ≤ 2000000) (hd : 0 < d) (hd1 : d < 4294967296) :
    Calls Tryz.prog 240 #[m, .int .u32 d] w fun e w' => ∃ v, e = .returned (.tuple #[v, .int .u32 (x % d)]) ∧ Ext w w' ∧ HalfAt w' v (x / d) L := by
  obtain ⟨i0, hi0, hz0, hz1, hz2⟩ := info_parts info32
  obtain ⟨xs, ⟨ax, capx, rfl, hx2⟩, dX, nX, rfl, lX⟩ := hX.is
  have rx' : Row .u32 w (.slice ax xs.length capx) xs := ⟨ax, capx, rfl, hx2⟩
  have RX := Lib.hid rx'
  clear hX rx' hx2 nX
  go_enter Tryz.func240, Tryz.ntmps240
  go_wp2_with (at_make; refine wpList_make_full _ rfl _ _ 259 rfl w.heap.size 261 i0 _ 1 Tryz.underlying259 hi0 hz0 hz1 _ _ _ _ xs.length rfl rfl (by omega) (by omega) (by rw [hz2]; omega) (by unfold maxLen; omega) (Nat.le_refl _) ?_; intro v3 hown0 hgrow0)
  have hownA : v3.ownsRow w.heap.size 261 1 (.slice (some ⟨w.heap.size, 0, none⟩) xs.length xs.length) xs.length ((List.replicate xs.length (0 : Int)).map (Value.int .u32)) := by
    rw [List.map_replicate]; have h := hown0; rw [Nat.mul_one, show (Value.int .u32 0).cells = #[.int .u32 0] from rfl, toList_madeCells_one] at h; exact h
  have xA : Ext w v3 := Ext.grown (Ext.refl _) hgrow0 (fun r hr => by cases hr)
  have HA := Lib.hid hownA
  clear hown0 hgrow0 hownA
  go_loopw [7, 8] (fun rv iv wr => ∃ (k : Nat) (r : Int) (zs : List Int), k ≤ xs.length ∧ iv = .int .i64 ((k : Int) - 1) ∧ rv = .int .u64 r ∧ ShRel xs d k r zs ∧ wr.ownsRow w.heap.size 261 1 (.slice (some ⟨w.heap.size, 0, none⟩) xs.length xs.length) xs.length (zs.map (Value.int .u32)) ∧ Ext w wr) (fun _ iv _ => (intOf iv + 1).toNat)
  case atStart =>
    refine ⟨xs.length, 0, List.replicate xs.length 0, Nat.le_refl _, rfl, rfl, ⟨by simp, fun d hd => ?_, by omega, hd, ?_⟩, HA.out, xA⟩
    · have := List.eq_of_mem_replicate hd; subst this; exact ⟨Int.le_refl _, by decide⟩
    · rw [List.drop_length, List.drop_of_length_le (by simp)]; simp [val]
  case round =>
    obtain ⟨k, r, zs, hk, rfl, rfl, hS, hown, hext⟩ := hrel
    rcases Nat.eq_zero_or_pos k with hk0 | hk0
    · subst hk0
      have hs := hS.is
      rw [List.drop_zero, List.drop_zero] at hs
      have r0 := hS.r0
      have r1 := hS.r1
      have e1 : val B32 xs / d = val B32 zs := by rw [hs, Int.add_comm, Int.add_mul_ediv_left _ _ (by omega), Int.ediv_eq_zero_of_lt r0 r1, Int.zero_add]
      have e2 : val B32 xs % d = r := by rw [hs, Int.add_comm, Int.add_mul_emod_self_left, Int.emod_eq_of_lt r0 r1]
      have HR := Lib.hid (Row.of_owns hown).1
      have HD := Lib.hid hS.digs
      have HLn : Hid (zs.length ≤ L) := Lib.hid (by rw [hS.len]; exact lX)
      have E1 := Lib.hid e1
      have E2 := Lib.hid e2
      clear hS hs e1 e2 hown
      go_wp2_with fail
      refine (cut_any HR.out).mono ?_
      rintro e w' ⟨v4, n3, hcut, rfl, hrow3, rfl⟩
      have H : Hid (HalfAt wr v4 (val B32 xs / d) L) := Lib.hid ⟨⟨zs.take n3, hrow3, HD.out.take _, hcut.neat, by rw [hcut.val, E1.out], by rw [List.length_take]; have := HLn.out; omega⟩⟩
      clear hcut hrow3
      go_wp2
      go_ret2
      exact ⟨_, by rw [E2.out]; rfl, hext, H.out⟩
    · obtain ⟨ST, q0, q1⟩ := hS.step (j := k - 1) (by omega) hk dX hd (by omega)
      have HST := Lib.hid ST
      obtain ⟨bx, ox, rfl, cx1⟩ := RX.out.cellAt (k - 1) (by omega)
      have cx := hext.cell cx1
      have r0 := hS.r0
      have r1 := hS.r1
      obtain ⟨x0, x1⟩ := getD_bd dX (k - 1)
      have en : ((k - 1 : Nat) : Int) = (k : Int) - 1 := by omega
      have nx : (k : Int) - 1 < (xs.length : Int) := by omega
      have cz := owns_at hown (k - 1) (by omega)
      have fz := hown.frozenAt (k - 1)
      have HW := Lib.hid hown
      have ho := or_lo r (xs.getD (k - 1) 0) r0 (by omega) x0 x1
      have hr1 : r < 4294967296 := by omega
      clear cx1 hS hown ST
      generalize xs.getD (k - 1) 0 = xd at *
      generalize zs.getD (k - 1) 0 = zd at *
      have ht0 : 0 ≤ r * 4294967296 + xd := by omega
      have ht1 : r * 4294967296 + xd < 18446744073709551616 := by omega
      generalize r * 4294967296 + xd = t at *
      have hq : t.tdiv d = t / d := Int.tdiv_eq_ediv_of_nonneg ht0
      have hm : t.tmod d = t % d := Int.tmod_eq_emod_of_nonneg ht0
      have m0 : 0 ≤ t % d := Int.emod_nonneg _ (by omega)
      have m1 : t % d < d := Int.emod_lt_of_pos _ hd
      have hdn : d ≠ 0 := by omega
      go_wp2_with fail
      exact ⟨⟨k - 1, _, _, by omega, by rw [en], rfl, HST.out, own_set HW.out _ _, Ext.q⟩, by simp [intOf]; omega⟩
end Go.Proofs.YtkegefnpmijfiaaGreat
