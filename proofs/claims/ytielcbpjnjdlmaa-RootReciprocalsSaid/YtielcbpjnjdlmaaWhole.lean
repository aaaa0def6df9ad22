/- ref90: whole. -/
import Derived.Test.YtielcbpjnjdlmaaHalves
import Derived.Test.YtielcbpjnjdlmaaLeft
namespace Go.Proofs.Ytielcbpjnjdlmaa
open Go.RowKit
/-- The digits of 64 bits of digits of 32. -/
def wn : List Int → List Int
  | [] => []
  | [a] => [a]
  | a :: b :: ds => (a + b * 4294967296) :: wn ds
theorem wn_val : ∀ ds : List Int, val B64 (wn ds) = val B32 ds
  | [] => rfl
  | [a] => by simp only [wn, val]; omega
  | a :: b :: ds => by
    have := wn_val ds
    simp only [wn, val]
    rw [this]
    unfold B32 B64
    omega
theorem wn_length : ∀ ds : List Int, (wn ds).length = (ds.length + 1) / 2
  | [] => rfl
  | [a] => by simp [wn]
  | a :: b :: ds => by
    have := wn_length ds
    simp only [wn, List.length_cons]
    omega
theorem wn_append : ∀ xs ys : List Int, xs.length % 2 = 0 → wn (xs ++ ys) = wn xs ++ wn ys
  | [], ys, _ => rfl
  | [a], ys, h => by simp at h
  | a :: b :: xs, ys, h => by
    simp only [List.cons_append, wn]
    rw [wn_append xs ys (by simp only [List.length_cons] at h; omega)]
theorem wn_digs : ∀ ds : List Int, Digs B32 ds → Digs B64 (wn ds)
  | [], _ => fun d hd => by cases hd
  | [a], h => fun d hd => by
    have := h d hd
    unfold B32 at this
    unfold B64
    omega
  | a :: b :: ds, h => by
    have ha := h a (by simp)
    have hb := h b (by simp)
    have h1 := wn_digs ds (fun x hx => h x (by simp [hx]))
    unfold B32 at ha hb
    intro x hx
    simp only [wn, List.mem_cons] at hx
    unfold B64
    rcases hx with rfl | hx
    · omega
    · exact h1 x hx
theorem or_comm64 (a b : Int) (a0 : 0 ≤ a) (a1 : a < 18446744073709551616) (b0 : 0 ≤ b) (b1 : b < 18446744073709551616) : bits .or .u64 a b = bits .or .u64 b a := by
  obtain ⟨a, rfl⟩ := Int.eq_ofNat_of_zero_le a0
  obtain ⟨b, rfl⟩ := Int.eq_ofNat_of_zero_le b0
  rw [u64_or_nat a b (by omega) (by omega), u64_or_nat b a (by omega) (by omega), Nat.or_comm]
theorem or_32 (a b : Int) (a0 : 0 ≤ a) (a1 : a < 4294967296) (b0 : 0 ≤ b) (b1 : b < 4294967296) : bits .or .u64 a (IntKind.u64.wrap (b * 4294967296)) = a + b * 4294967296 := by
  have e : IntKind.u64.wrap (b * 4294967296) = b * 4294967296 := by rw [IntKind.wrap_u64]; omega
  rw [e, or_comm64 a _ (by omega) (by omega) (by omega) (by omega), or_disj (b * 4294967296) a 32 (by omega) a0 (by omega) (by omega) (by omega) (by omega)]
  omega
theorem step_1 {ds : List Int} {m n : Nat} (h : m = 2 * n) (h1 : m + 1 = ds.length) : wn (ds.take (m + 2)) = wn (ds.take m) ++ [ds.getD m 0] := by
  have e1 : ds.take (m + 2) = ds.take (m + 1) := by rw [List.take_of_length_le (by omega), List.take_of_length_le (by omega)]
  rw [e1, take_succ_getD ds m (by omega), wn_append _ _ (by rw [List.length_take]; omega)]
  rfl
theorem step_2 {ds : List Int} {m n : Nat} (h : m = 2 * n) (h1 : m + 1 < ds.length) : wn (ds.take (m + 2)) = wn (ds.take m) ++ [ds.getD m 0 + ds.getD (m + 1) 0 * 4294967296] := by
  rw [show m + 2 = (m + 1) + 1 by omega, take_succ_getD ds (m + 1) h1, take_succ_getD ds m (by omega), List.append_assoc, wn_append _ _ (by rw [List.length_take]; omega)]
  rfl
theorem news_1 (w : World) (v : Value) (t : TypeId) : ∀ j u, [v][j]? = some u → (w.alloc (.cells #[v] t)).cell? ((⟨w.heap.size, 0, none⟩ : Addr).add j) = some u :=
  World.news_of_block (cs := #[v]) (t := t) (fr := (0, 0)) (heap_alloc_new w _)
theorem one_1 (k : IntKind) (x : Int) : ∀ u ∈ [Value.int k x], u.oneCell' = true := by
  intro u hu; simp at hu; subst hu; rfl
set_option maxHeartbeats 1000000 in
set_option maxRecDepth 100000 in
theorem whole_walk (b o cap : Nat) (ds : List Int) (w : World) (hl : ds.length ≤ 2000000) (_hb : b < w.heap.size) (hD : Digs B32 ds)
    (hc : ∀ i, i < ds.length → w.cell? ⟨b, o + i, none⟩ = some (.int .u32 (ds.getD i 0))) :
    Calls Try.prog 148 #[.slice (some ⟨b, o, none⟩) ds.length cap] w fun e w' => ∃ v, e = .returned v ∧ Ext w w' ∧ NatAt w' v (val B32 ds) ((ds.length + 1) / 2) ∧ New w v := by
  obtain ⟨i0, hi0, hz0, hz1, hz2⟩ := info_parts info64
  go_enter Try.func148, Try.ntmps148
  go_wp2_with fail
  go_loopw [3, 4] (fun v i wr => ∃ m n : Nat, m = 2 * n ∧ m ≤ ds.length + 1 ∧ i = .int .i64 m ∧ wr.ownsRow w.heap.size 24 1 v n ((wn (ds.take m)).map (Value.int .u64)) ∧ Ext w wr) (fun _ i _ => ds.length + 2 - (intOf i).toNat)
  case atStart => exact ⟨0, 0, rfl, Nat.zero_le _, rfl, World.ownsRow_nil _ _ _ _, Ext.refl _⟩
  case round =>
    obtain ⟨m, n, hm, hk, rfl, hown, hext⟩ := hrel
    rcases Nat.lt_or_ge m ds.length with hlt | hge
    · have hcell := hext.cell (hc m hlt)
      obtain ⟨d0, d1⟩ := hD.at m hlt
      unfold B32 at d1
      have hrow := hown.lt
      have hn2 : n + 1 ≤ maxLen := by unfold maxLen; omega
      have hn3 : (n + 1) * 8 ≤ 140737488355328 := by omega
      have hbase := hext.size
      rcases Nat.lt_or_ge (m + 1) ds.length with hlt2 | hge2
      · have hcell2 := hext.cell (hc (m + 1) hlt2)
        have hlt3 : (m : Int) + 1 < (ds.length : Int) := by omega
        obtain ⟨e0, e1⟩ := hD.at (m + 1) hlt2
        unfold B32 at e1
        have hs := step_2 hm hlt2
        have ho := or_32 _ _ d0 (by exact d1) e0 (by exact e1)
        have e : IntKind.u64.wrap (ds.getD (m + 1) 0 * 4294967296) = ds.getD (m + 1) 0 * 4294967296 := by rw [IntKind.wrap_u64]; omega
        rw [e] at ho
        rw [← ho] at hs
        have HS := Lib.hid hs
        have HM := Lib.hid hm
        clear hm hs ho e
        generalize ds.getD m 0 = x at hcell d0 d1 HS
        generalize ds.getD (m + 1) 0 = y at hcell2 e0 e1 HS
        go_wp2_with (at_builtin; refine wpList_append_own _ rfl _ _ 71 rfl w.heap.size 24 i0 _ 1 8 Try.underlying71 hi0 hz0 hz1 hz2 rfl (by decide) _ _ _ rfl (hown.alloc _) ⟨wr.heap.size, 0, none⟩ 1 1 [.int .u64 (bits .or .u64 x (y * 4294967296))] rfl rfl (news_1 _ _ _) (one_1 _ _) hn2 hn3 (by simp; omega) ?_; intro v' w1 hown1 hgrow _)
        have X : Ext w w1 := Ext.grown (hext.alloc _) hgrow (fun r hr => (hrow r hr).1)
        clear hown hgrow hcell hcell2 hrow
        go_wp2_with fail
        have hown2 : w1.ownsRow w.heap.size 24 1 v' (n + 1) ((wn (ds.take (m + 2))).map (Value.int .u64)) := by
          rw [HS.out, List.map_append]; exact hown1
        have hm := HM.out
        exact ⟨⟨m + 2, n + 1, by omega, by omega, by go_num, hown2, X⟩, by simp [intOf]; omega⟩
      · have hlt3 : (ds.length : Int) ≤ (m : Int) + 1 := by omega
        have HS := Lib.hid (step_1 hm (by omega : m + 1 = ds.length))
        have HM := Lib.hid hm
        clear hm
        generalize ds.getD m 0 = x at hcell d0 d1 HS
        go_wp2_with (at_builtin; refine wpList_append_own _ rfl _ _ 71 rfl w.heap.size 24 i0 _ 1 8 Try.underlying71 hi0 hz0 hz1 hz2 rfl (by decide) _ _ _ rfl (hown.alloc _) ⟨wr.heap.size, 0, none⟩ 1 1 [.int .u64 x] rfl rfl (news_1 _ _ _) (one_1 _ _) hn2 hn3 (by simp; omega) ?_; intro v' w1 hown1 hgrow _)
        have X : Ext w w1 := Ext.grown (hext.alloc _) hgrow (fun r hr => (hrow r hr).1)
        clear hown hgrow hcell hrow
        go_wp2_with fail
        have hown2 : w1.ownsRow w.heap.size 24 1 v' (n + 1) ((wn (ds.take (m + 2))).map (Value.int .u64)) := by
          rw [HS.out, List.map_append]; exact hown1
        have hm := HM.out
        exact ⟨⟨m + 2, n + 1, by omega, by omega, by go_num, hown2, X⟩, by simp [intOf]; omega⟩
    · rw [List.take_of_length_le hge] at hown
      have HC := Lib.hid (trim_new (Row.of_owns hown).1)
      have HO := Lib.hid hown.lt
      clear hown
      go_wp2_with fail
      refine HC.out.mono ?_
      rintro e w' ⟨v', n', hcut, rfl, hrow, rfl, hob⟩
      have HN : Hid (New w v') := Lib.hid (fun b hb => (HO.out b (hob ▸ hb)).1)
      have hn : n' ≤ (ds.length + 1) / 2 := by have := hcut.le; rw [wn_length] at this; exact this
      have R := Lib.hid (⟨⟨(wn ds).take n', hrow, (wn_digs ds hD).take n', hcut.neat, by rw [hcut.val, wn_val], by rw [List.length_take]; omega⟩⟩ : NatAt wr v' (val B32 ds) ((ds.length + 1) / 2))
      clear hcut hrow hn hob
      go_wp2
      go_ret
      exact ⟨_, rfl, hext, R.out, HN.out⟩
theorem whole_empty (a : Option Addr) (cap : Nat) (w : World) :
    Calls Try.prog 148 #[.slice a 0 cap] w fun e w' => e = .returned (.slice none 0 0) ∧ w = w' := by
  have HC := Lib.hid (fun v => trim_empty none 0 v)
  go_enter Try.func148, Try.ntmps148
  go_wp2_with fail
  refine wp_loop_rounds 1 ?_
  rw [rounds_succ]
  go_wp2_with fail; refine (HC.out _).mono ?_; rintro e w' ⟨rfl, rfl⟩
  go_wp2
  go_ret
  exact ⟨rfl, rfl⟩
/-- A row of digits of 32 bits, whichever. -/
theorem whole_new {v : Value} {ds : List Int} {w : World} (h : Row .u32 w v ds) (hD : Digs B32 ds) (hL : ds.length ≤ 2000000) :
    Calls Try.prog 148 #[v] w fun e w' => ∃ v', e = .returned v' ∧ Ext w w' ∧ NatAt w' v' (val B32 ds) ((ds.length + 1) / 2) ∧ New w v' := by
  obtain ⟨a, cap, rfl, h1, h2, h3⟩ := h
  by_cases hn : ds = []
  · subst hn
    refine (whole_empty a cap w).mono ?_
    rintro e w' ⟨rfl, rfl⟩
    exact ⟨_, rfl, Ext.refl _, ⟨⟨[], Row.nil _ _, (fun d hd => absurd hd (by simp)), Or.inl rfl, rfl, Nat.zero_le _⟩⟩, fun b hb => by cases hb⟩
  · obtain ⟨b, o, rfl, hc⟩ := h3 hn
    have hpos : 0 < ds.length := List.length_pos_iff.2 hn
    exact whole_walk b o cap ds w hL (cell_lt (hc 0 hpos)) hD hc
theorem whole_any {v : Value} {ds : List Int} {w : World} (h : Row .u32 w v ds) (hD : Digs B32 ds) (hL : ds.length ≤ 2000000) :
    Calls Try.prog 148 #[v] w fun e w' => ∃ v', e = .returned v' ∧ Ext w w' ∧ NatAt w' v' (val B32 ds) ((ds.length + 1) / 2) :=
  (whole_new h hD hL).mono (by rintro e w' ⟨v', h1, h2, h3, -⟩; exact ⟨v', h1, h2, h3⟩)
end Go.Proofs.Ytielcbpjnjdlmaa
