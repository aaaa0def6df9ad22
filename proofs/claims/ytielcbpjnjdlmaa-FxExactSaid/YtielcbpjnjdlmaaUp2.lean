/- ref90: Up2. -/
import Derived.Test.YtielcbpjnjdlmaaNCmp
namespace Go.Proofs.Ytielcbpjnjdlmaa
open Go.RowKit
structure UpRel (xs : List Int) (s k : Nat) (c : Int) (ws : List Int) : Prop where
  len : ws.length = k
  digs : Digs B64 ws
  c0 : 0 ≤ c
  c1 : c < 2 ^ s
  is : val B64 ws + c * B64 ^ k = val B64 (xs.take k) * 2 ^ s
theorem up_digit (d c : Int) (s : Nat) (hs : s < 64) (_d0 : 0 ≤ d) (d1 : d < 18446744073709551616) (c0 : 0 ≤ c) (c1 : c < 2 ^ s) :
    bits .or .u64 (IntKind.u64.wrap (d * 2 ^ s)) c = (d * 2 ^ s + c) % 18446744073709551616 ∧ (d * 2 ^ s + c) / 18446744073709551616 = d * 2 ^ s / 18446744073709551616 ∧ d * 2 ^ s / 18446744073709551616 < 2 ^ s ∧ d / 2 ^ (64 - s) = d * 2 ^ s / 18446744073709551616 := by
  have p := pow_split s (by omega)
  have p1 := pow_pos' s
  have p2 := pow_pos' (64 - s)
  have e1 : (d * 2 ^ s) % 18446744073709551616 = (d % 2 ^ (64 - s)) * 2 ^ s := by
    rw [← p, Int.mul_comm d, Int.mul_emod_mul_of_pos _ _ p1, Int.mul_comm]
  have e2 : (d * 2 ^ s) / 18446744073709551616 = d / 2 ^ (64 - s) := by
    rw [← p, Int.mul_comm (2 ^ s) (2 ^ (64 - s)), Int.mul_ediv_mul_of_pos_left d (2 ^ (64 - s)) p1]
  have h1 := Int.emod_lt_of_pos d p2
  have h2 := Int.emod_nonneg d (show (2 : Int) ^ (64 - s) ≠ 0 by omega)
  have h3 := Int.mul_le_mul_of_nonneg_right (show d % 2 ^ (64 - s) + 1 ≤ 2 ^ (64 - s) by omega) (Int.le_of_lt p1)
  rw [Int.add_mul, Int.one_mul, Int.mul_comm (2 ^ (64 - s)), p] at h3
  have h4 := Int.mul_nonneg h2 (Int.le_of_lt p1)
  have h5 : d / 2 ^ (64 - s) < 2 ^ s := by
    apply Int.ediv_lt_of_lt_mul p2
    rw [p]; exact d1
  have h6 : (d * 2 ^ s) % 18446744073709551616 % 2 ^ s = 0 := by rw [e1]; exact Int.mul_emod_left _ _
  refine ⟨?_, ?_, by rw [e2]; exact h5, e2.symm⟩
  · rw [IntKind.wrap_u64, or_disj _ c s (by omega) c0 c1 h6 (by omega) (by omega)]
    omega
  · omega
theorem UpRel.step {xs ws : List Int} {s k : Nat} {c : Int} (h : UpRel xs s k c ws) (hs : s < 64) (hk : k < xs.length) (hx : Digs B64 xs) :
    UpRel xs s (k + 1) (xs.getD k 0 * 2 ^ s / 18446744073709551616) (ws ++ [(xs.getD k 0 * 2 ^ s + c) % 18446744073709551616]) := by
  obtain ⟨d0, d1⟩ := hx.at k hk
  obtain ⟨a, b, b2, _⟩ := up_digit _ c s hs d0 d1 h.c0 h.c1
  have p1 := pow_pos' s
  have m0 := Int.mul_nonneg d0 (Int.le_of_lt p1)
  refine ⟨by simp [h.len], h.digs.snoc (by omega) (by unfold B64; omega), by omega, b2, ?_⟩
  rw [val_snoc, val_take_succ, h.len, Int.add_mul, ← h.is, ← b, Int.mul_assoc, Int.mul_comm (B64 ^ k), ← Int.mul_assoc]
  generalize xs.getD k 0 * 2 ^ s = t at *
  have ht : t = (t + c) % 18446744073709551616 + 18446744073709551616 * ((t + c) / 18446744073709551616) - c := by omega
  generalize (t + c) % 18446744073709551616 = r at *
  generalize (t + c) / 18446744073709551616 = q at *
  have e2 : q * B64 ^ (k + 1) = (18446744073709551616 * q) * B64 ^ k := by
    rw [Int.pow_succ, Int.mul_comm (B64 ^ k), ← Int.mul_assoc, Int.mul_comm q]; rfl
  have e3 : t * B64 ^ k = r * B64 ^ k + (18446744073709551616 * q) * B64 ^ k - c * B64 ^ k := by
    rw [← Int.add_mul, ← Int.sub_mul, ← ht]
  rw [e2, e3]
  generalize B64 ^ k = p at *
  omega
theorem zeros_val (B : Int) (q : Nat) (ws : List Int) : val B (List.replicate q 0 ++ ws) = B ^ q * val B ws := by
  induction q with
  | zero => simp
  | succ q ih => rw [List.replicate_succ, List.cons_append, val, ih, Int.pow_succ, Int.zero_add, Int.mul_comm (B ^ q) B, Int.mul_assoc]
theorem up_row {w : World} {base : Nat} {e : TypeId} {v : Value} {q k : Nat} {ws : List Int} {d : Int} (h : w.ownsRow base e 1 v (q + k + 1) ((List.replicate q (0 : Int) ++ ws).map (Value.int .u64) ++ [.int .u64 d])) :
    w.ownsRow base e 1 v (q + (k + 1)) ((List.replicate q (0 : Int) ++ (ws ++ [d])).map (Value.int .u64)) := by
  rw [← List.append_assoc, List.map_append]; exact h
set_option maxHeartbeats 2000000 in
set_option maxRecDepth 100000 in
theorem Up2_new {m : Value} {x n : Int} {L q s : Nat} {w : World} (hX : NatAt w m x L) (hL : L ≤ 1000000) (hq : q ≤ 1000000) (hs : s < 64) (hn : n = 64 * q + s) :
    Calls Try.prog 51 #[m, .int .i64 n] w fun e w' => ∃ v, e = .returned v ∧ Ext w w' ∧ NatAt w' v (x * 2 ^ (64 * q + s)) (L + q + 1) ∧ New w v := by
  obtain ⟨xs, ⟨ax, capx, rfl, hx2⟩, dX, nX, rfl, lX⟩ := hX.is
  by_cases h0 : xs = []
  · subst h0
    clear hX
    have HN : Hid (NatAt w (.slice none 0 0) (val B64 [] * 2 ^ (64 * q + s)) (L + q + 1)) := Lib.hid ⟨⟨[], Row.nil _ _, (fun d hd => absurd hd (by simp)), Or.inl rfl, by simp [val], Nat.zero_le _⟩⟩
    go_enter Try.func51, Try.ntmps51
    go_wp2
    go_ret
    exact ⟨_, rfl, (by repeat (first | with_reducible exact Ext.refl _ | with_reducible apply Ext.drew | with_reducible apply Ext.drewN | with_reducible apply Ext.alloc | ((with_reducible refine Ext.setCell ?_ ?_ _); rotate_left; focus (first | (simp; done) | (simp; omega) | omega)) | with_reducible refine Ext.tr ?_ x1 | with_reducible refine Ext.tr ?_ x2 | with_reducible refine Ext.tr ?_ x3 | with_reducible refine Ext.tr ?_ x4 | with_reducible refine Ext.tr ?_ x5 | with_reducible refine Ext.tr ?_ x6 | with_reducible refine Ext.tr ?_ x7 | with_reducible refine Ext.tr ?_ x8 | with_reducible refine Ext.tr ?_ x9 | with_reducible refine Ext.tr ?_ xa | with_reducible refine Ext.tr ?_ xb | with_reducible refine Ext.tr ?_ xc | with_reducible refine Ext.tr ?_ xd | with_reducible refine Ext.tr ?_ xe | with_reducible refine Ext.tr ?_ xf | with_reducible refine Ext.tr ?_ xg | with_reducible refine Ext.tr ?_ hx | with_reducible refine Ext.tr ?_ hext | with_reducible assumption)), HN.out, fun b hb => by cases hb⟩
  · obtain ⟨i0, hi0, hz0, hz1, hz2⟩ := info_parts info64
    have hpos : 0 < xs.length := List.length_pos_iff.2 h0
    have rx' : Row .u64 w (.slice ax xs.length capx) xs := ⟨ax, capx, rfl, hx2⟩
    have RX := Lib.hid rx'
    have n0 : (0 : Int) ≤ n := by omega
    have nq : n.tdiv 64 = (q : Int) := by rw [Int.tdiv_eq_ediv_of_nonneg n0]; omega
    have ns : n.tmod 64 = (s : Int) := by rw [Int.tmod_eq_emod_of_nonneg n0]; omega
    have nl : ((xs.length : Int) == 0) = false := by rw [beq_eq_false_iff_ne]; omega
    clear hX rx' hx2 h0 hn
    go_enter Try.func51, Try.ntmps51
    go_wp2_with (at_make; refine wpList_make_full _ rfl _ _ 71 rfl w.heap.size 24 i0 _ 1 Try.underlying71 hi0 hz0 hz1 _ _ _ _ q rfl rfl (by omega) (by omega) (by rw [hz2]; omega) (by unfold maxLen; omega) (Nat.le_refl _) ?_; intro v3 hown0 hgrow0)
    have hownA : v3.ownsRow w.heap.size 24 1 (.slice (some ⟨w.heap.size, 0, none⟩) q q) q ((List.replicate q (0 : Int) ++ []).map (Value.int .u64)) := by
      rw [List.append_nil, List.map_replicate]; have h := hown0; rw [Nat.mul_one, show (Value.int .u64 0).cells = #[.int .u64 0] from rfl, toList_madeCells_one] at h; exact h
    have xA : Ext w v3 := Ext.grown (Ext.refl _) hgrow0 (fun r hr => by cases hr)
    have HA := Lib.hid hownA
    clear hown0 hgrow0 hownA
    go_loopw [5, 7, 8] (fun lv cv iv wr => ∃ (k : Nat) (c : Int) (ws : List Int), k ≤ xs.length ∧ iv = .int .i64 k ∧ cv = .int .u64 c ∧ UpRel xs s k c ws ∧ wr.ownsRow w.heap.size 24 1 lv (q + k) ((List.replicate q (0 : Int) ++ ws).map (Value.int .u64)) ∧ Ext w wr) (fun _ _ iv _ => xs.length - (intOf iv).toNat)
    case atStart => exact ⟨0, 0, [], Nat.zero_le _, rfl, rfl, ⟨rfl, fun d hd => absurd hd (by simp), by omega, pow_pos' s, by simp [val]⟩, HA.out, xA⟩
    case round =>
      obtain ⟨k, c, ws, hk, rfl, rfl, hU, hown, hext⟩ := hrel
      have c0 := hU.c0
      have hrow := hown.lt
      have hbase := hext.size
      have hn2 : q + k + 1 ≤ maxLen := by unfold maxLen; omega
      have hn3 : (q + k + 1) * 8 ≤ 140737488355328 := by omega
      rcases Nat.lt_or_ge k xs.length with hx | hge
      · obtain ⟨d0, d1⟩ := dX.at k hx
        unfold B64 at d1
        obtain ⟨u1, u2, u3', u4⟩ := up_digit _ c s hs d0 d1 c0 hU.c1
        have hu := hU.step hs hx dX
        rw [← u1] at hu
        obtain ⟨bx, ox, rfl, cx1⟩ := RX.out.cellAt k hx
        have cx := hext.cell cx1
        have nx : (k : Int) < (xs.length : Int) := by omega
        rcases Nat.eq_zero_or_pos s with hs0 | hs0
        · have hz : xs.getD k 0 * 2 ^ s / 18446744073709551616 = 0 := by rw [hs0, Int.pow_zero, Int.mul_one]; exact Int.ediv_eq_zero_of_lt d0 d1
          rw [hz] at hu
          have ns0 : ¬ (0 : Int) < (s : Int) := by omega
          clear u1 u2 u3' u4 hU hz hs0
          have HU := Lib.hid hu
          clear hu
          generalize xs.getD k 0 = xd at *
          go_wp2_with (at_builtin; refine wpList_append_own _ rfl _ _ 71 rfl w.heap.size 24 i0 _ 1 8 Try.underlying71 hi0 hz0 hz1 hz2 rfl (by decide) _ _ _ rfl (hown.alloc _) ⟨wr.heap.size, 0, none⟩ 1 1 [.int .u64 (bits .or .u64 (IntKind.u64.wrap (xd * 2 ^ s)) c)] rfl rfl (news_1 _ _ _) (one_1 _ _) hn2 hn3 (by simp; omega) ?_; intro v' w1 hown1 hgrow _; have X : Ext w w1 := Ext.grown (hext.alloc _) hgrow (fun r hr => (hrow r hr).1); have cx3 := X.cell cx1)
          have hown2 := up_row hown1
          clear hown hown1 hgrow hrow
          exact ⟨⟨k + 1, _, _, by omega, by go_num, rfl, HU.out, hown2, X⟩, by simp [intOf]; omega⟩
        · rw [← u4] at hu
          have ns0 : (0 : Int) < (s : Int) := by omega
          clear u1 u2 u3' u4 hU
          have HU := Lib.hid hu
          clear hu
          generalize xs.getD k 0 = xd at *
          go_wp2_with (at_builtin; refine wpList_append_own _ rfl _ _ 71 rfl w.heap.size 24 i0 _ 1 8 Try.underlying71 hi0 hz0 hz1 hz2 rfl (by decide) _ _ _ rfl (hown.alloc _) ⟨wr.heap.size, 0, none⟩ 1 1 [.int .u64 (bits .or .u64 (IntKind.u64.wrap (xd * 2 ^ s)) c)] rfl rfl (news_1 _ _ _) (one_1 _ _) hn2 hn3 (by simp; omega) ?_; intro v' w1 hown1 hgrow _; have X : Ext w w1 := Ext.grown (hext.alloc _) hgrow (fun r hr => (hrow r hr).1); have cx3 := X.cell cx1)
          have hown2 := up_row hown1
          clear hown hown1 hgrow hrow
          exact ⟨⟨k + 1, _, _, by omega, by go_num, rfl, HU.out, hown2, X⟩, by simp [intOf]; omega⟩
      · obtain rfl : k = xs.length := by omega
        have hv : val B64 (List.replicate q 0 ++ (ws ++ [c])) = val B64 xs * 2 ^ (64 * q + s) := by
          have e := hU.is
          rw [List.take_length] at e
          rw [zeros_val, val_snoc, hU.len, e, Int.pow_add, Int.pow_mul, Int.mul_left_comm]; rfl
        have hd : Digs B64 (List.replicate q 0 ++ (ws ++ [c])) := by
          intro d hd
          rcases List.mem_append.1 hd with h | h
          · have := List.eq_of_mem_replicate h; subst this; exact ⟨Int.le_refl _, by decide⟩
          · refine hU.digs.snoc c0 ?_ d h
            have := hU.c1
            have p := pow_mono' (show (1 : Int) ≤ 2 by omega) (show s ≤ 64 by omega)
            unfold B64; omega
        have hl : (List.replicate q (0 : Int) ++ (ws ++ [c])).length ≤ L + q + 1 := by simp [hU.len]; omega
        have HV := Lib.hid hv
        have HD := Lib.hid hd
        have HL := Lib.hid hl
        have nx : ¬ (xs.length : Int) < (xs.length : Int) := by omega
        clear hv hd hl hU
        go_wp2_with (at_builtin; refine wpList_append_own _ rfl _ _ 71 rfl w.heap.size 24 i0 _ 1 8 Try.underlying71 hi0 hz0 hz1 hz2 rfl (by decide) _ _ _ rfl (hown.alloc _) ⟨wr.heap.size, 0, none⟩ 1 1 [.int .u64 c] rfl rfl (news_1 _ _ _) (one_1 _ _) hn2 hn3 (by simp; omega) ?_; intro v' w1 hown1 hgrow _)
        have X : Ext w w1 := Ext.grown (hext.alloc _) hgrow (fun r hr => (hrow r hr).1)
        have HR := Lib.hid (Row.of_owns (up_row hown1)).1
        have HO := Lib.hid hown1.lt
        clear hown hown1 hgrow hrow
        go_wp2_with fail
        refine (trim_new HR.out).mono ?_
        rintro e w' ⟨v4, n3, hcut, rfl, hrow3, rfl, hob⟩
        have HN : Hid (New w v4) := Lib.hid (fun b hb => (HO.out b (hob ▸ hb)).1)
        have h := NatAt.of_cut hrow3 hcut HD.out HL.out
        rw [HV.out] at h
        have H := Lib.hid h
        clear h hcut hrow3 hob
        go_wp2
        go_ret
        exact ⟨_, rfl, X, H.out, HN.out⟩
theorem Up2_any {m : Value} {x n : Int} {L q s : Nat} {w : World} (hX : NatAt w m x L) (hL : L ≤ 1000000) (hq : q ≤ 1000000) (hs : s < 64) (hn : n = 64 * q + s) :
    Calls Try.prog 51 #[m, .int .i64 n] w fun e w' => ∃ v, e = .returned v ∧ Ext w w' ∧ NatAt w' v (x * 2 ^ (64 * q + s)) (L + q + 1) :=
  (Up2_new hX hL hq hs hn).mono (by rintro e w' ⟨v', h1, h2, h3, -⟩; exact ⟨v', h1, h2, h3⟩)
end Go.Proofs.Ytielcbpjnjdlmaa
