/- ref90: Down2. -/
import Derived.Test.YtielcbpjnjdlmaaNLen
namespace Go.Proofs.Ytielcbpjnjdlmaa
open Go.RowKit
/-- Digits over 2^s. -/
def dn (s : Nat) : List Int → List Int
  | [] => []
  | [a] => [a / 2 ^ s]
  | a :: b :: ds => (a / 2 ^ s + (b % 2 ^ s) * 2 ^ (64 - s)) :: dn s (b :: ds)
theorem dn_length (s : Nat) : ∀ ds : List Int, (dn s ds).length = ds.length
  | [] => rfl
  | [a] => rfl
  | a :: b :: ds => by
    have := dn_length s (b :: ds)
    simp only [dn, List.length_cons] at this ⊢
    omega
theorem dn_getD (s : Nat) : ∀ (ds : List Int) (k : Nat), k < ds.length → (dn s ds).getD k 0 = if k + 1 < ds.length then ds.getD k 0 / 2 ^ s + (ds.getD (k + 1) 0 % 2 ^ s) * 2 ^ (64 - s) else ds.getD k 0 / 2 ^ s
  | [], k, h => by simp at h
  | [a], k, h => by
    obtain rfl : k = 0 := by simpa using h
    simp [dn]
  | a :: b :: ds, 0, h => by simp [dn]
  | a :: b :: ds, k + 1, h => by
    have := dn_getD s (b :: ds) k (by simpa using h)
    simp only [dn, List.getD_cons_succ, List.length_cons, Nat.add_lt_add_iff_right] at this ⊢
    exact this
theorem dn_val {s : Nat} (hs : s < 64) : ∀ ds : List Int, val B64 (dn s ds) = val B64 ds / 2 ^ s
  | [] => by simp [dn, val]
  | [a] => by simp [dn, val]
  | a :: b :: ds => by
    have ih := dn_val hs (b :: ds)
    have p := pow_split s (by omega)
    have p1 := pow_pos' s
    have eb : val B64 (b :: ds) % 2 ^ s = b % 2 ^ s := by
      rw [val, show B64 = 2 ^ s * 2 ^ (64 - s) from p.symm, Int.mul_assoc, Int.add_mul_emod_self_left]
    have e1 : val B64 (a :: b :: ds) = a + B64 * val B64 (b :: ds) := rfl
    have e2 : val B64 (dn s (a :: b :: ds)) = a / 2 ^ s + (b % 2 ^ s) * 2 ^ (64 - s) + B64 * val B64 (dn s (b :: ds)) := rfl
    rw [e1, e2, ih]
    clear e1 e2 ih
    generalize val B64 (b :: ds) = V at *
    rw [show B64 = 2 ^ s * 2 ^ (64 - s) from p.symm, Int.mul_assoc (2 ^ s) _ V, Int.add_mul_ediv_left _ _ (by omega), ← eb]
    have e := Int.mul_ediv_add_emod V (2 ^ s)
    generalize V / 2 ^ s = Q at *
    generalize V % 2 ^ s = R at *
    rw [← e, Int.mul_add]
    rw [Int.mul_comm R, Int.mul_comm (2 ^ s) (2 ^ (64 - s)), Int.mul_assoc]
    omega
theorem dn_digit {s : Nat} (hs : s < 64) {a b : Int} (a0 : 0 ≤ a) (a1 : a < 18446744073709551616) (_b0 : 0 ≤ b) :
    0 ≤ a / 2 ^ s ∧ a / 2 ^ s < 2 ^ (64 - s) ∧ 0 ≤ (b % 2 ^ s) * 2 ^ (64 - s) ∧ (b % 2 ^ s) * 2 ^ (64 - s) + 2 ^ (64 - s) ≤ 18446744073709551616 ∧ IntKind.u64.wrap (b * 2 ^ (64 - s)) = (b % 2 ^ s) * 2 ^ (64 - s) ∧
    bits .or .u64 (a / 2 ^ s) (IntKind.u64.wrap (b * 2 ^ (64 - s))) = a / 2 ^ s + (b % 2 ^ s) * 2 ^ (64 - s) := by
  have p := pow_split s (by omega)
  have p1 := pow_pos' s
  have p2 := pow_pos' (64 - s)
  have h0 := Int.ediv_nonneg a0 (Int.le_of_lt p1)
  have h1 : a / 2 ^ s < 2 ^ (64 - s) := by
    apply Int.ediv_lt_of_lt_mul p1
    rw [Int.mul_comm, p]; exact a1
  have r0 := Int.emod_nonneg b (show (2 : Int) ^ s ≠ 0 by omega)
  have r1 := Int.emod_lt_of_pos b p1
  have h2 := Int.mul_nonneg r0 (Int.le_of_lt p2)
  have h3 := Int.mul_le_mul_of_nonneg_right (show b % 2 ^ s + 1 ≤ 2 ^ s by omega) (Int.le_of_lt p2)
  rw [Int.add_mul, Int.one_mul, p] at h3
  have e1 : IntKind.u64.wrap (b * 2 ^ (64 - s)) = (b % 2 ^ s) * 2 ^ (64 - s) := by
    rw [IntKind.wrap_u64, ← p, Int.mul_comm b, Int.mul_comm (2 ^ s), Int.mul_emod_mul_of_pos _ _ p2, Int.mul_comm]
  refine ⟨h0, h1, h2, by omega, e1, ?_⟩
  rw [e1, or_comm64 _ _ h0 (by omega) h2 (by omega), or_disj _ _ (64 - s) h2 h0 h1 (Int.mul_emod_left _ _) (by omega) (by omega)]
  omega
theorem dn_digs {s : Nat} (hs : s < 64) : ∀ ds : List Int, Digs B64 ds → Digs B64 (dn s ds)
  | [], _ => fun d hd => absurd hd (by simp [dn])
  | [a], h => by
    obtain ⟨a0, a1⟩ := h a (by simp)
    obtain ⟨h0, h1, h2, h3, _⟩ := dn_digit hs a0 (by exact a1) (Int.le_refl 0)
    intro d hd
    simp only [dn, List.mem_singleton] at hd
    subst hd
    unfold B64; omega
  | a :: b :: ds, h => by
    obtain ⟨a0, a1⟩ := h a (by simp)
    obtain ⟨b0, b1⟩ := h b (by simp)
    obtain ⟨h0, h1, h2, h3, _⟩ := dn_digit hs a0 (by exact a1) b0
    have ih := dn_digs hs (b :: ds) (fun x hx => h x (by simp only [List.mem_cons] at hx ⊢; exact Or.inr hx))
    intro d hd
    rw [dn, List.mem_cons] at hd
    rcases hd with rfl | hd
    · unfold B64; omega
    · exact ih d hd
theorem drop_getD (xs : List Int) (q k : Nat) : (xs.drop q).getD k 0 = xs.getD (q + k) 0 := by
  simp [List.getD]
theorem dn_up {xs : List Int} {q s n : Nat} (hx : Digs B64 xs) (h : n = 64 * q + s) (hk : q ≤ xs.length) :
    val B64 (xs.drop q) / 2 ^ s = val B64 xs / 2 ^ n := by
  have e := val_split B64 xs q hk
  obtain ⟨a0, a1⟩ := val_bd (by decide) (xs.take q) (hx.take _)
  rw [List.length_take, Nat.min_eq_left hk] at a1
  have p : (0 : Int) < B64 ^ q := Int.pow_pos (by decide)
  have e1 : val B64 xs / B64 ^ q = val B64 (xs.drop q) := by
    rw [e, Int.add_mul_ediv_left _ _ (by omega), Int.ediv_eq_zero_of_lt a0 a1, Int.zero_add]
  rw [← e1, b64_pow, Int.ediv_ediv_of_nonneg (Int.le_of_lt (pow_pos' _)), ← Int.pow_add, h]
theorem len_of_bits {xs : List Int} {q l : Nat} (hl : BitLen (val B64 xs) l) (hx : Digs B64 xs) (h : 64 * q < l) : q < xs.length := by
  rcases Nat.lt_or_ge q xs.length with h1 | h1
  · exact h1
  · have h2 := (val_bd (by decide) xs hx).2
    rw [b64_pow] at h2
    have h3 := pow_mono' (show (1 : Int) ≤ 2 by omega) (show 64 * xs.length ≤ l - 1 by omega)
    rcases hl.2 with h4 | h4 <;> omega
set_option maxHeartbeats 2000000 in
set_option maxRecDepth 100000 in
theorem Down2_new {m : Value} {x n : Int} {L q s : Nat} {w : World} (hX : NatAt w m x L) (hL : L ≤ 1000000) (hs : s < 64) (hn : n = 64 * q + s) :
    Calls Try.prog 152 #[m, .int .i64 n] w fun e w' => ∃ v, e = .returned v ∧ Ext w w' ∧ NatAt w' v (x / 2 ^ (64 * q + s)) L ∧ New w v := by
  have n0 : (0 : Int) ≤ n := by omega
  have nq : n.tdiv 64 = (q : Int) := by rw [Int.tdiv_eq_ediv_of_nonneg n0]; omega
  have ns : n.tmod 64 = (s : Int) := by rw [Int.tmod_eq_emod_of_nonneg n0]; omega
  go_enter Try.func152, Try.ntmps152
  go_wp2_with fail
  refine (NLen_any hX hL).mono ?_
  rintro e w' ⟨l, rfl, rfl, hl⟩
  rcases Nat.lt_or_ge (64 * q + s) l with hnl | hnl
  · obtain ⟨xs, ⟨ax, capx, rfl, hx2⟩, dX, nX, rfl, lX⟩ := hX.is
    obtain ⟨i0, hi0, hz0, hz1, hz2⟩ := info_parts info64
    have rx' : Row .u64 w (.slice ax xs.length capx) xs := ⟨ax, capx, rfl, hx2⟩
    have RX := Lib.hid rx'
    have hql := len_of_bits hl dX (show 64 * q < l by omega)
    have HV : Hid (val B64 (dn s (xs.drop q)) = val B64 xs / 2 ^ (64 * q + s)) := Lib.hid (by rw [dn_val hs, dn_up dX rfl (by omega)])
    have HD := Lib.hid (dn_digs hs (xs.drop q) (fun d hd => dX d (List.mem_of_mem_drop hd)))
    have nnl : n < (l : Int) := by omega
    clear hX rx' hx2 hl nX hn
    go_wp2_with fail
    go_loopw [6, 7] (fun lv iv wr => ∃ i k : Nat, i = q + k ∧ i ≤ xs.length ∧ iv = .int .i64 i ∧ wr.ownsRow w.heap.size 24 1 lv k (((dn s (xs.drop q)).take k).map (Value.int .u64)) ∧ Ext w wr) (fun _ iv _ => xs.length - (intOf iv).toNat)
    case atStart => exact ⟨q, 0, rfl, by omega, rfl, World.ownsRow_nil _ _ _ _, Ext.refl _⟩
    case round =>
      obtain ⟨i, k, hik, hi, rfl, hown, hext⟩ := hrel
      have hrow := hown.lt
      have hbase := hext.size
      have hn2 : k + 1 ≤ maxLen := by unfold maxLen; omega
      have hn3 : (k + 1) * 8 ≤ 140737488355328 := by omega
      rcases Nat.lt_or_ge i xs.length with hx | hge
      · obtain ⟨d0, d1⟩ := dX.at i hx
        unfold B64 at d1
        obtain ⟨bx, ox, rfl, cx1⟩ := RX.out.cellAt i hx
        have cx := hext.cell cx1
        have nx : (i : Int) < (xs.length : Int) := by omega
        have hdl : (xs.drop q).length = xs.length - q := List.length_drop
        have hg := dn_getD s (xs.drop q) k (by omega)
        have ht := take_succ_getD (dn s (xs.drop q)) k (by rw [dn_length]; omega)
        rw [drop_getD, drop_getD, ← hik, ← Nat.add_assoc, ← hik, hdl] at hg
        rcases Nat.lt_or_ge (i + 1) xs.length with hx2 | hx2
        · obtain ⟨e0, e1⟩ := dX.at (i + 1) hx2
          unfold B64 at e1
          obtain ⟨b2, o2, heq, cy1⟩ := RX.out.cellAt (i + 1) hx2
          simp only [Option.some.injEq, Addr.mk.injEq, and_true] at heq
          obtain ⟨rfl, rfl⟩ := heq
          have cy := hext.cell cy1
          rw [if_pos (by omega)] at hg
          obtain ⟨u1, u2, u3', u4, u5, u6⟩ := dn_digit hs d0 d1 e0
          have nx2 : (i : Int) + 1 < (xs.length : Int) := by omega
          rcases Nat.eq_zero_or_pos s with hs0 | hs0
          · have ns0 : ¬ (0 : Int) < (s : Int) := by omega
            have hg2 : (dn s (xs.drop q)).getD k 0 = xs.getD i 0 / 2 ^ s := by rw [hg, hs0]; simp [Int.emod_one]
            rw [hg2] at ht
            have HT := Lib.hid ht
            have HI := Lib.hid hik
            clear u1 u2 u3' u4 u5 u6 hg hg2 ht hik hs0 hdl
            generalize xs.getD i 0 = xd at *
            generalize xs.getD (i + 1) 0 = yd at *
            go_wp2_with (at_builtin; refine wpList_append_own _ rfl _ _ 71 rfl w.heap.size 24 i0 _ 1 8 Try.underlying71 hi0 hz0 hz1 hz2 rfl (by decide) _ _ _ rfl (hown.alloc _) ⟨wr.heap.size, 0, none⟩ 1 1 [.int .u64 (xd / 2 ^ s)] rfl rfl (news_1 _ _ _) (one_1 _ _) hn2 hn3 (by simp; omega) ?_; intro v' w1 hown1 hgrow _; have X : Ext w w1 := Ext.grown (hext.alloc _) hgrow (fun r hr => (hrow r hr).1))
            have hown2 : w1.ownsRow w.heap.size 24 1 v' (k + 1) (((dn s (xs.drop q)).take (k + 1)).map (Value.int .u64)) := by
              rw [HT.out, List.map_append]; exact hown1
            have hi2 := HI.out
            clear hown hown1 hgrow hrow
            go_wp2_with fail
            exact ⟨⟨i + 1, k + 1, by omega, by omega, by go_num, hown2, X⟩, by simp [intOf]; omega⟩
          · have ns0 : (0 : Int) < (s : Int) := by omega
            rw [← u6] at hg
            rw [hg] at ht
            have HT := Lib.hid ht
            have HI := Lib.hid hik
            clear u1 u2 u3' u4 u5 u6 hg ht hik hs0 hdl
            generalize xs.getD i 0 = xd at *
            generalize xs.getD (i + 1) 0 = yd at *
            go_wp2_with (at_builtin; refine wpList_append_own _ rfl _ _ 71 rfl w.heap.size 24 i0 _ 1 8 Try.underlying71 hi0 hz0 hz1 hz2 rfl (by decide) _ _ _ rfl (hown.alloc _) ⟨wr.heap.size, 0, none⟩ 1 1 [.int .u64 (bits .or .u64 (xd / 2 ^ s) (IntKind.u64.wrap (yd * 2 ^ (64 - s))))] rfl rfl (news_1 _ _ _) (one_1 _ _) hn2 hn3 (by simp; omega) ?_; intro v' w1 hown1 hgrow _; have X : Ext w w1 := Ext.grown (hext.alloc _) hgrow (fun r hr => (hrow r hr).1))
            have hown2 : w1.ownsRow w.heap.size 24 1 v' (k + 1) (((dn s (xs.drop q)).take (k + 1)).map (Value.int .u64)) := by
              rw [HT.out, List.map_append]; exact hown1
            have hi2 := HI.out
            clear hown hown1 hgrow hrow
            go_wp2_with fail
            exact ⟨⟨i + 1, k + 1, by omega, by omega, by go_num, hown2, X⟩, by simp [intOf]; omega⟩
        · rw [if_neg (by omega)] at hg
          rw [hg] at ht
          have HT := Lib.hid ht
          have HI := Lib.hid hik
          have nx2 : ¬ (i : Int) + 1 < (xs.length : Int) := by omega
          clear hg ht hik hdl
          generalize xs.getD i 0 = xd at *
          rcases Nat.eq_zero_or_pos s with hs0 | hs0
          · have ns0 : ¬ (0 : Int) < (s : Int) := by omega
            clear hs0
            go_wp2_with (at_builtin; refine wpList_append_own _ rfl _ _ 71 rfl w.heap.size 24 i0 _ 1 8 Try.underlying71 hi0 hz0 hz1 hz2 rfl (by decide) _ _ _ rfl (hown.alloc _) ⟨wr.heap.size, 0, none⟩ 1 1 [.int .u64 (xd / 2 ^ s)] rfl rfl (news_1 _ _ _) (one_1 _ _) hn2 hn3 (by simp; omega) ?_; intro v' w1 hown1 hgrow _; have X : Ext w w1 := Ext.grown (hext.alloc _) hgrow (fun r hr => (hrow r hr).1))
            have hown2 : w1.ownsRow w.heap.size 24 1 v' (k + 1) (((dn s (xs.drop q)).take (k + 1)).map (Value.int .u64)) := by
              rw [HT.out, List.map_append]; exact hown1
            have hi2 := HI.out
            clear hown hown1 hgrow hrow
            go_wp2_with fail
            exact ⟨⟨i + 1, k + 1, by omega, by omega, by go_num, hown2, X⟩, by simp [intOf]; omega⟩
          · have ns0 : (0 : Int) < (s : Int) := by omega
            clear hs0
            go_wp2_with (at_builtin; refine wpList_append_own _ rfl _ _ 71 rfl w.heap.size 24 i0 _ 1 8 Try.underlying71 hi0 hz0 hz1 hz2 rfl (by decide) _ _ _ rfl (hown.alloc _) ⟨wr.heap.size, 0, none⟩ 1 1 [.int .u64 (xd / 2 ^ s)] rfl rfl (news_1 _ _ _) (one_1 _ _) hn2 hn3 (by simp; omega) ?_; intro v' w1 hown1 hgrow _; have X : Ext w w1 := Ext.grown (hext.alloc _) hgrow (fun r hr => (hrow r hr).1))
            have hown2 : w1.ownsRow w.heap.size 24 1 v' (k + 1) (((dn s (xs.drop q)).take (k + 1)).map (Value.int .u64)) := by
              rw [HT.out, List.map_append]; exact hown1
            have hi2 := HI.out
            clear hown hown1 hgrow hrow
            go_wp2_with fail
            exact ⟨⟨i + 1, k + 1, by omega, by omega, by go_num, hown2, X⟩, by simp [intOf]; omega⟩
      · have hik2 : k = (xs.drop q).length := by rw [List.length_drop]; omega
        have hown2 := hown
        rw [hik2, List.take_of_length_le (by rw [dn_length]; omega)] at hown2
        have HR := Lib.hid (Row.of_owns hown2).1
        have HO := Lib.hid hown2.lt
        have HLn : Hid ((dn s (xs.drop q)).length ≤ L) := Lib.hid (by rw [dn_length, List.length_drop]; omega)
        have nx : ¬ (i : Int) < (xs.length : Int) := by omega
        clear hown hown2 hrow hik hik2
        go_wp2_with fail
        refine (trim_new HR.out).mono ?_
        rintro e w' ⟨v4, n3, hcut, rfl, hrow3, rfl, hob⟩
        have HN : Hid (New w v4) := Lib.hid (fun b hb => (HO.out b (hob ▸ hb)).1)
        have h := NatAt.of_cut hrow3 hcut HD.out HLn.out
        rw [HV.out] at h
        have H := Lib.hid h
        clear h hcut hrow3 hob
        go_wp2
        go_ret
        exact ⟨_, rfl, hext, H.out, HN.out⟩
  · have hx0 : x / 2 ^ (64 * q + s) = 0 := by
      refine Int.ediv_eq_zero_of_lt hX.nn ?_
      have := pow_mono' (show (1 : Int) ≤ 2 by omega) hnl
      have := hl.1
      omega
    have H : Hid (NatAt w (.slice none 0 0) (x / 2 ^ (64 * q + s)) L) := Lib.hid (by rw [hx0]; exact ⟨⟨[], Row.nil _ _, (fun d hd => absurd hd (by simp)), Or.inl rfl, rfl, Nat.zero_le _⟩⟩)
    have nnl : (l : Int) ≤ n := by omega
    clear hx0 hl
    go_wp2
    go_ret
    exact ⟨_, rfl, (by repeat (first | with_reducible exact Ext.refl _ | with_reducible apply Ext.drew | with_reducible apply Ext.drewN | with_reducible apply Ext.alloc | ((with_reducible refine Ext.setCell ?_ ?_ _); rotate_left; focus (first | (simp; done) | (simp; omega) | omega)) | with_reducible refine Ext.tr ?_ x1 | with_reducible refine Ext.tr ?_ x2 | with_reducible refine Ext.tr ?_ x3 | with_reducible refine Ext.tr ?_ x4 | with_reducible refine Ext.tr ?_ x5 | with_reducible refine Ext.tr ?_ x6 | with_reducible refine Ext.tr ?_ x7 | with_reducible refine Ext.tr ?_ x8 | with_reducible refine Ext.tr ?_ x9 | with_reducible refine Ext.tr ?_ xa | with_reducible refine Ext.tr ?_ xb | with_reducible refine Ext.tr ?_ xc | with_reducible refine Ext.tr ?_ xd | with_reducible refine Ext.tr ?_ xe | with_reducible refine Ext.tr ?_ xf | with_reducible refine Ext.tr ?_ xg | with_reducible refine Ext.tr ?_ hx | with_reducible refine Ext.tr ?_ hext | with_reducible assumption)), H.out, fun b hb => by cases hb⟩
theorem Down2_any {m : Value} {x n : Int} {L q s : Nat} {w : World} (hX : NatAt w m x L) (hL : L ≤ 1000000) (hs : s < 64) (hn : n = 64 * q + s) :
    Calls Try.prog 152 #[m, .int .i64 n] w fun e w' => ∃ v, e = .returned v ∧ Ext w w' ∧ NatAt w' v (x / 2 ^ (64 * q + s)) L :=
  (Down2_new hX hL hs hn).mono (by rintro e w' ⟨v', h1, h2, h3, -⟩; exact ⟨v', h1, h2, h3⟩)
end Go.Proofs.Ytielcbpjnjdlmaa
