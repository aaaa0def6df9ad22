/- (*def.reader).one: a line's layer. -/
import Derived.Test.YtfimmcnfmipnlaaDoorDefRows
import Derived.Test.YtfimmcnfmipnlaaDoorGb
import Derived.BigQuiet
import Derived.Deep.DeepCutAuto
namespace Go.Proofs.YtfimmcnfmipnlaaDoor
open Go.RowKit
/-- A layer's cells. -/
def layA (f : LayF) (b : Value) : Array Value := #[.int .i64 f.kind, .int .i64 f.inn, .int .i64 f.out, .int .i64 f.size, .int .i64 f.stride, .int .i64 f.pad, .int .i64 f.percent, .int .i64 f.heads, b]
theorem layA_set (f : LayF) (b : Value) {p : Nat} (hp : p < 8) (x : Int) : (layA f b).setIfInBounds p (.int .i64 x) = layA (f.set p x) b := by
  have hh : p = 0 ∨ p = 1 ∨ p = 2 ∨ p = 3 ∨ p = 4 ∨ p = 5 ∨ p = 6 ∨ p = 7 := by omega
  rcases hh with rfl | rfl | rfl | rfl | rfl | rfl | rfl | rfl <;> rfl
theorem Blk.gb {w W : World} {g b : Nat} {t : TypeId} {cs : Array Value} (h : Blk w g t cs) (hb : GB w W b) (hne : g ≠ b) : Blk W g t cs := h.grown hb (fun e => hne (Option.some.inj e))
theorem GB.cell {w W : World} {b : Nat} {p : Addr} {v : Value} (h : GB w W b) (hc : w.cell? p = some v) (hne : p.block ≠ b) : W.cell? p = some v := by
  rw [← hc]
  exact World.cell?_of_block (h.block _ (cell_lt hc) (fun e => hne (Option.some.inj e)))
/-- A number that a word tells, within bounds. -/
theorem numR_cases (t : Bs) (lo hi : Int) : (∃ m, numB t = some m ∧ lo ≤ (m : Int) ∧ (m : Int) ≤ hi ∧ numR t lo hi = ((m : Int), true)) ∨ ((∀ m, numB t = some m → ¬ (lo ≤ (m : Int) ∧ (m : Int) ≤ hi)) ∧ (numR t lo hi).2 = false) := by
  unfold numR
  cases h : numB t with
  | none => exact .inr ⟨fun m h => (Option.some_ne_none m h.symm).elim, rfl⟩
  | some m =>
    by_cases c : lo ≤ (m : Int) ∧ (m : Int) ≤ hi
    · exact .inl ⟨m, rfl, c.1, c.2, by simp [c.1, c.2]⟩
    · refine .inr ⟨fun m' e => by cases e; exact c, ?_⟩
      simp only
      rcases Classical.not_and_iff_not_or_not.1 c with h1 | h1 <;> simp [h1]
theorem layA_at (f : LayF) (b : Value) {p : Nat} (hp : p < 8) : (layA f b)[p]? = some (.int .i64 (f.at p)) := by
  have hh : p = 0 ∨ p = 1 ∨ p = 2 ∨ p = 3 ∨ p = 4 ∨ p = 5 ∨ p = 6 ∨ p = 7 := by omega
  rcases hh with rfl | rfl | rfl | rfl | rfl | rfl | rfl | rfl <;> rfl
theorem lows_at {k j : Nat} (h : j < (placesK k).length) : (lowsK k).getD j 0 = lowK k j := by
  rw [List.getD_eq_getElem?_getD, lowsK, List.getElem?_map, List.getElem?_range h]; rfl
theorem highs_at {k j : Nat} (h : j < (placesK k).length) : (highsK k).getD j 0 = highK k := by
  rw [List.getD_eq_getElem?_getD, highsK, List.getElem?_map, List.getElem?_eq_getElem h]; rfl
theorem lows_len (k : Nat) : (lowsK k).length = (placesK k).length := by simp [lowsK]
theorem highs_len (k : Nat) : (highsK k).length = (placesK k).length := by simp [highsK]
theorem places_len (k : Nat) : (placesK k).length ≤ 5 := by unfold placesK; split <;> simp
theorem Blk.lay {W : World} {g : Nat} {t : TypeId} {f : LayF} {a : Option Addr} {n c : Nat} (h : Blk W g t (layA f (.slice a n c))) :
    W.cell? ⟨g, 0, none⟩ = some (.int .i64 f.kind) ∧ W.cell? ⟨g, 1, none⟩ = some (.int .i64 f.inn) ∧ W.cell? ⟨g, 2, none⟩ = some (.int .i64 f.out) ∧ W.cell? ⟨g, 3, none⟩ = some (.int .i64 f.size) ∧ W.cell? ⟨g, 4, none⟩ = some (.int .i64 f.stride) ∧
    W.cell? ⟨g, 5, none⟩ = some (.int .i64 f.pad) ∧ W.cell? ⟨g, 6, none⟩ = some (.int .i64 f.percent) ∧ W.cell? ⟨g, 7, none⟩ = some (.int .i64 f.heads) ∧ W.cell? ⟨g, 8, none⟩ = some (.slice a n c) ∧
    W.frozen? ⟨g, 0, none⟩ = false ∧ W.frozen? ⟨g, 1, none⟩ = false ∧ W.frozen? ⟨g, 2, none⟩ = false ∧ W.frozen? ⟨g, 3, none⟩ = false ∧ W.frozen? ⟨g, 4, none⟩ = false ∧ W.frozen? ⟨g, 5, none⟩ = false ∧ W.frozen? ⟨g, 6, none⟩ = false ∧ W.frozen? ⟨g, 7, none⟩ = false ∧ W.frozen? ⟨g, 8, none⟩ = false :=
  ⟨h.cell 0, h.cell 1, h.cell 2, h.cell 3, h.cell 4, h.cell 5, h.cell 6, h.cell 7, h.cell 8, h.frozen 0, h.frozen 1, h.frozen 2, h.frozen 3, h.frozen 4, h.frozen 5, h.frozen 6, h.frozen 7, h.frozen 8⟩
theorem places_ok {k p : Nat} (h : p ∈ placesK k) : 1 ≤ p ∧ p ≤ 7 := by
  unfold placesK at h
  split at h <;> simp at h <;> omega
set_option maxHeartbeats 1000000 in
theorem field_any {p : Nat} (h1 : 1 ≤ p) (h2 : p ≤ 7) (b : Nat) (w : World) : Calls Tryd.prog (fieldFn p) #[.pointer (some ⟨b, 0, none⟩)] w fun e w' => e = .returned (.pointer (some ⟨b, p, none⟩)) ∧ w = w' := by
  have hh : p = 1 ∨ p = 2 ∨ p = 3 ∨ p = 4 ∨ p = 5 ∨ p = 6 ∨ p = 7 := by omega
  rcases hh with rfl | rfl | rfl | rfl | rfl | rfl | rfl
  · show Calls Tryd.prog 44 _ _ _
    go_enter Tryd.func44, Tryd.ntmps44
    go_wp2
    go_ret
    exact ⟨rfl, rfl⟩
  · show Calls Tryd.prog 45 _ _ _
    go_enter Tryd.func45, Tryd.ntmps45
    go_wp2
    go_ret
    exact ⟨rfl, rfl⟩
  · show Calls Tryd.prog 46 _ _ _
    go_enter Tryd.func46, Tryd.ntmps46
    go_wp2
    go_ret
    exact ⟨rfl, rfl⟩
  · show Calls Tryd.prog 47 _ _ _
    go_enter Tryd.func47, Tryd.ntmps47
    go_wp2
    go_ret
    exact ⟨rfl, rfl⟩
  · show Calls Tryd.prog 48 _ _ _
    go_enter Tryd.func48, Tryd.ntmps48
    go_wp2
    go_ret
    exact ⟨rfl, rfl⟩
  · show Calls Tryd.prog 49 _ _ _
    go_enter Tryd.func49, Tryd.ntmps49
    go_wp2
    go_ret
    exact ⟨rfl, rfl⟩
  · show Calls Tryd.prog 50 _ _ _
    go_enter Tryd.func50, Tryd.ntmps50
    go_wp2
    go_ret
    exact ⟨rfl, rfl⟩
theorem field_enters {p : Nat} (h1 : 1 ≤ p) (h2 : p ≤ 7) (args : Array Value) (w : World) : (callFunc (fieldFn p) args).run Tryd.prog w = .ok (.enter (fieldFn p) args) w := by
  have hh : p = 1 ∨ p = 2 ∨ p = 3 ∨ p = 4 ∨ p = 5 ∨ p = 6 ∨ p = 7 := by omega
  rcases hh with rfl | rfl | rfl | rfl | rfl | rfl | rfl
  · exact enters_of Tryd.func44 (by kernel_rfl) rfl args w
  · exact enters_of Tryd.func45 (by kernel_rfl) rfl args w
  · exact enters_of Tryd.func46 (by kernel_rfl) rfl args w
  · exact enters_of Tryd.func47 (by kernel_rfl) rfl args w
  · exact enters_of Tryd.func48 (by kernel_rfl) rfl args w
  · exact enters_of Tryd.func49 (by kernel_rfl) rfl args w
  · exact enters_of Tryd.func50 (by kernel_rfl) rfl args w
/-- What one tells: a layer without a body, or none. -/
def oneV (f : Option LayF) : Value := match f with
  | some f => .tuple #[.agg (layA f (.slice none 0 0)), .bool true]
  | none => .tuple #[.agg (layA LayF.zero (.slice none 0 0)), .bool false]
set_option maxHeartbeats 4000000 in
set_option maxRecDepth 100000 in
theorem one_any {r v : Value} {x : Bs} {ws : List Bs} {w : World} (h : RowV w v (strs (x :: ws))) (hs : ∀ y ∈ ws, y.length ≤ 100000) :
    Calls Tryd.prog 66 #[r, v] w fun e w' => e = .returned (oneV (oneS (x :: ws))) ∧ Ext w w' := by
  obtain ⟨a, cap, rfl, h1, h2, h3⟩ := h
  obtain ⟨b, o, rfl, hc⟩ := h3 (by simp [strs])
  rw [strs_len] at h1 ⊢
  have hlen : (x :: ws).length ≤ 9223372036854775807 := by unfold maxLen at h2; omega
  have HC := Lib.hid (fun i (hi : i < (strs (x :: ws)).length) => hc i hi)
  have HS := Lib.hid hs
  clear h3 hc hs
  go_enter Tryd.func66, Tryd.ntmps66
  go_wp2_with fail; refine (rows_any _).mono ?_; rintro e v1 ⟨B, rfl, x1, hB0, tab⟩; obtain ⟨c1, f1⟩ := x1.rules; have z1 := x1.size; have k1_0_0 := c1 (w.heap.size) 0 (by first | (simp; done) | (simp; omega) | omega); have q1_0_0 := f1 (w.heap.size) 0 (by first | (simp; done) | (simp; omega) | omega); have k1_0_1 := c1 (w.heap.size) 1 (by first | (simp; done) | (simp; omega) | omega); have q1_0_1 := f1 (w.heap.size) 1 (by first | (simp; done) | (simp; omega) | omega); have k1_0_2 := c1 (w.heap.size) 2 (by first | (simp; done) | (simp; omega) | omega); have q1_0_2 := f1 (w.heap.size) 2 (by first | (simp; done) | (simp; omega) | omega); have k1_0_3 := c1 (w.heap.size) 3 (by first | (simp; done) | (simp; omega) | omega); have q1_0_3 := f1 (w.heap.size) 3 (by first | (simp; done) | (simp; omega) | omega); have k1_0_4 := c1 (w.heap.size) 4 (by first | (simp; done) | (simp; omega) | omega); have q1_0_4 := f1 (w.heap.size) 4 (by first | (simp; done) | (simp; omega) | omega); have k1_0_5 := c1 (w.heap.size) 5 (by first | (simp; done) | (simp; omega) | omega); have q1_0_5 := f1 (w.heap.size) 5 (by first | (simp; done) | (simp; omega) | omega); have k1_0_6 := c1 (w.heap.size) 6 (by first | (simp; done) | (simp; omega) | omega); have q1_0_6 := f1 (w.heap.size) 6 (by first | (simp; done) | (simp; omega) | omega); have k1_0_7 := c1 (w.heap.size) 7 (by first | (simp; done) | (simp; omega) | omega); have q1_0_7 := f1 (w.heap.size) 7 (by first | (simp; done) | (simp; omega) | omega); have k1_0_8 := c1 (w.heap.size) 8 (by first | (simp; done) | (simp; omega) | omega); have q1_0_8 := f1 (w.heap.size) 8 (by first | (simp; done) | (simp; omega) | omega); have z1_0 : w.heap.size < v1.heap.size := (by (try simp at z1); omega); (try simp at z1); clear c1 f1; simp [go_sem, *] at k1_0_0 q1_0_0 k1_0_1 q1_0_1 k1_0_2 q1_0_2 k1_0_3 q1_0_3 k1_0_4 q1_0_4 k1_0_5 q1_0_5 k1_0_6 q1_0_6 k1_0_7 q1_0_7 k1_0_8 q1_0_8
  have TAB := Lib.hid tab
  have BLK0 := Lib.hid (show Blk v1 w.heap.size 49 (layA LayF.zero (.slice none 0 0)) from (Blk.new w _ _).ext x1)
  have Z0 := Lib.hid z1_0
  clear tab k1_0_0 q1_0_0 k1_0_1 q1_0_1 k1_0_2 q1_0_2 k1_0_3 q1_0_3 k1_0_4 q1_0_4 k1_0_5 q1_0_5 k1_0_6 q1_0_6 k1_0_7 q1_0_7 k1_0_8 q1_0_8
  have LW := Lib.hid (fun (i : Nat) (hi : i < 12) => kindB_at hi)
  go_wp2_with fail
  go_loopw [14] (fun c wr => ∃ i : Nat, i ≤ 12 ∧ c = .int .i64 i ∧ (∀ j, j < i → nameB (kindsT.getD j 0) ≠ x) ∧ Ext v1 wr) (fun c _ => 12 - (intOf c).toNat)
  case atStart => exact ⟨0, Nat.zero_le _, rfl, by omega, by first | exact Ext.refl _ | exact (by repeat (first | with_reducible exact Ext.refl _ | with_reducible apply Ext.drew | with_reducible apply Ext.drewN | with_reducible apply Ext.alloc | ((with_reducible refine Ext.setCell ?_ ?_ _); rotate_left; focus (first | (simp; done) | (simp; omega) | omega)) | with_reducible refine Ext.tr ?_ x1 | with_reducible refine Ext.tr ?_ hext | with_reducible assumption))⟩
  case round =>
    obtain ⟨i, hi, rfl, hno, hext⟩ := hrel
    have XW := Lib.hid (show Ext w wr from ((Ext.refl w).alloc _).tr (x1.tr hext))
    have zw : w.heap.size < wr.heap.size := by have := hext.size; have := Z0.out; omega
    have bl := BLK0.out.ext hext
    have NO := Lib.hid hno
    clear hno
    rcases Nat.lt_or_ge i 12 with hlt | hge
    · have hz : (i : Int) < 12 := by omega
      have row := (TAB.out i hlt).ext hext
      have e0 := row.kind
      have e1 := row.word
      obtain ⟨_, _, _, e2, e3, e4, ⟨aa, qa, rfl, -, -, ra⟩, ⟨al, ql, rfl, -, -, rl⟩, ⟨ah, qh, rfl, -, -, rh⟩, rb⟩ := row.rest
      clear row
      rw [List.length_map] at e2 ra
      rw [lows_len] at e3 rl
      rw [highs_len] at e4 rh
      have pn : (placesK (kindsT.getD i 0)).length ≤ 5 := places_len _
      have RA := Lib.hid ra
      have RL := Lib.hid rl
      have RH := Lib.hid rh
      have RB := Lib.hid rb
      clear ra rl rh rb
      have c0 := XW.out.cell (HC.out 0 (by simp [strs]))
      rw [Nat.add_zero] at c0
      change wr.cell? _ = some (.string (ba x)) at c0
      have KB := Lib.hid (LW.out i hlt)
      have NX : Hid (nameB (kindsT.getD i 0) ≠ x → ∀ j, j < i + 1 → nameB (kindsT.getD j 0) ≠ x) := Lib.hid (fun h j hj => by
        rcases Nat.lt_succ_iff_lt_or_eq.1 hj with h' | rfl
        · exact NO.out j h'
        · exact h)
      clear NO LW
      have hk14 : kindsT.getD i 0 < 14 := by
        have hh : i = 0 ∨ i = 1 ∨ i = 2 ∨ i = 3 ∨ i = 4 ∨ i = 5 ∨ i = 6 ∨ i = 7 ∨ i = 8 ∨ i = 9 ∨ i = 10 ∨ i = 11 := by omega
        rcases hh with rfl | rfl | rfl | rfl | rfl | rfl | rfl | rfl | rfl | rfl | rfl | rfl <;> decide
      generalize kindsT.getD i 0 = k at *
      obtain ⟨S, hS, -, -, -, LS⟩ := str_of x
      obtain ⟨N, hN, -, -, -, LN⟩ := str_of (nameB k)
      rw [hS] at c0
      rw [hN] at e1
      have SN : (S.toList == N.toList) = decide (x = nameB k) := by
        rw [LS.out, LN.out]
        by_cases e : x = nameB k <;> simp [e]
      have zb : b < wr.heap.size := by have := cell_lt c0; simpa using this
      clear hS hN LS LN
      by_cases e : x = nameB k
      · rw [decide_eq_true e] at SN
        have OS := Lib.hid (show oneS (x :: ws) = numsFrom k 0 { LayF.zero with kind := k } ws (placesK k) by simp only [oneS]; rw [e, KB.out])
        have LB := Lib.hid bl
        have zB : B < wr.heap.size := by have := cell_lt e0; simpa using this
        have w1 : IntKind.i64.wrap (1 + ((placesK k).length : Int)) = 1 + ((placesK k).length : Int) := by rw [IntKind.wrap_i64]; omega
        go_wp2_with fail
        go_quiet (fail)
        obtain ⟨W2, hW2⟩ : ∃ W2 : World, (wr.alloc (.cells #[.int .i64 k, .string N, .slice aa (placesK k).length qa, .slice al (placesK k).length ql, .slice ah (placesK k).length qh] 65)).drewN nq = W2 := ⟨_, rfl⟩
        have bl2 : Blk W2 w.heap.size 49 (layA LayF.zero (.slice none 0 0)) := by rw [← hW2]; exact (bl.alloc _).drewN _
        have bx2 : Blk W2 wr.heap.size 65 #[.int .i64 k, .string N, .slice aa (placesK k).length qa, .slice al (placesK k).length ql, .slice ah (placesK k).length qh] := by rw [← hW2]; exact (Blk.new wr _ _).drewN _
        have X2 : Ext wr W2 := by rw [← hW2]; exact ((Ext.refl _).alloc _).drewN _
        rw [hW2]
        have XW2 := Lib.hid (XW.out.tr X2)
        have XR := Lib.hid X2
        obtain ⟨k0, k1, k2, k3, k4, k5, k6, k7, k8, q0, q1, q2, q3, q4, q5, q6, q7, q8⟩ := bl2.lay
        have y0 : W2.cell? ⟨wr.heap.size, 0, none⟩ = some (.int .i64 k) := bx2.cell 0
        have y2 : W2.cell? ⟨wr.heap.size, 2, none⟩ = some (.slice aa (placesK k).length qa) := bx2.cell 2
        have zx : wr.heap.size < W2.heap.size := bx2.lt
        have zw2 : w.heap.size < W2.heap.size := by omega
        obtain ⟨g, hg⟩ : ∃ g, wr.heap.size = g := ⟨_, rfl⟩
        have BX := Lib.hid bx2
        have BL := Lib.hid bl2
        have zwg : w.heap.size ≠ g := by omega
        rw [hg] at y0 y2 zx BX ⊢
        clear hW2 bl bx2 bl2 X2 LB e0 e1 e2 e3 e4 c0 SN zB zb XW zw hg
        by_cases hl : ws.length = (placesK k).length
        · have w2 : (((ws.length : Int) + 1) != (1 + ((placesK k).length : Int))) = false := by simp; omega
          clear NX KB w1
          have BL3 := Lib.hid (show Blk (W2.setCell ⟨w.heap.size, 0, none⟩ (.int .i64 k)) w.heap.size 49 (layA { LayF.zero with kind := k } (.slice none 0 0)) from BL.out.set_ 0 _)
          have XL3 := Lib.hid (show Ext w (W2.setCell ⟨w.heap.size, 0, none⟩ (.int .i64 k)) from XW2.out.setCell (Nat.le_refl _) _)
          have GL3 := Lib.hid ((GB.refl W2 w.heap.size).set 0 (.int .i64 k))
          go_wp2_with fail
          clear k0 k1 k2 k3 k4 k5 k6 k7 k8 q0 q1 q2 q3 q4 q5 q6 q7 q8
          go_loopw [38] (fun c wr' => ∃ (j : Nat) (f : LayF), j ≤ (placesK k).length ∧ c = .int .i64 j ∧ numsFrom k 0 { LayF.zero with kind := k } ws (placesK k) = numsFrom k j f (ws.drop j) ((placesK k).drop j) ∧ Blk wr' w.heap.size 49 (layA f (.slice none 0 0)) ∧ GB W2 wr' w.heap.size ∧ Ext w wr') (fun c _ => (placesK k).length - (intOf c).toNat)
          case atStart => exact ⟨0, _, Nat.zero_le _, rfl, rfl, BL3.out, GL3.out, XL3.out⟩
          case round =>
            clear BL3 GL3 XL3 BL
            obtain ⟨j, f, hj, rfl, hnum, hbl, hgb, hex⟩ := hrel
            have NUM := Lib.hid hnum
            have GBX := Lib.hid hgb
            have XJ := Lib.hid hex
            rcases Nat.lt_or_ge j (placesK k).length with hjl | hjg
            · obtain ⟨V, rfl⟩ : ∃ V : World, V = wr := ⟨_, rfl⟩
              have hjw : j < ws.length := by omega
              have hz : (j : Int) < ((placesK k).length : Int) := by omega
              have hz2 : 1 + (j : Int) < ((placesK k).length : Int) + 1 := by omega
              have w3 : IntKind.i64.wrap (1 + (j : Int)) = ((j + 1 : Nat) : Int) := by rw [IntKind.wrap_i64]; omega
              have c1 := hex.cell ((HC.out (j + 1) (by simp [strs]; exact hjw)).trans (show (strs (x :: ws))[j + 1]? = some (.string (ba (ws[j]))) by simp [strs, hjw]))
              have zb1 := cell_lt c1
              simp only at zb1
              have bx := BX.out.gb hgb (fun e => zwg e.symm)
              have zg := bx.lt
              have y3 : V.cell? ⟨g, 3, none⟩ = some (.slice al (placesK k).length ql) := bx.cell 3
              have y4 : V.cell? ⟨g, 4, none⟩ = some (.slice ah (placesK k).length qh) := bx.cell 4
              have ne : placesK k ≠ [] := fun e => by rw [e] at hjl; simp at hjl
              obtain ⟨ba1, oa1, rfl, ca⟩ := RA.out (by simpa using ne)
              obtain ⟨bl1, ol1, rfl, cl⟩ := RL.out (by intro e; have := congrArg List.length e; rw [lows_len] at this; simp at this; exact ne this)
              obtain ⟨bh1, oh1, rfl, ch⟩ := RH.out (by intro e; have := congrArg List.length e; rw [highs_len] at this; simp at this; exact ne this)
              have fa := hgb.cell (XR.out.cell ((ca j hjl).trans (by rw [List.getElem?_map, List.getElem?_eq_getElem hjl]; rfl))) (show ba1 ≠ w.heap.size by have := RB.out ba1 (.inl rfl); simp at this; omega)
              have fl := hgb.cell (XR.out.cell (cl j hjl)) (show bl1 ≠ w.heap.size by have := RB.out bl1 (.inr (.inl rfl)); simp at this; omega)
              have fh := hgb.cell (XR.out.cell (ch j hjl)) (show bh1 ≠ w.heap.size by have := RB.out bh1 (.inr (.inr rfl)); simp at this; omega)
              rw [lows_at hjl] at fl
              rw [highs_at hjl] at fh
              have za := cell_lt fa
              have zl := cell_lt fl
              have zh := cell_lt fh
              simp only at za zl zh
              have PK := places_ok (k := k) (List.getElem_mem hjl)
              have NF := Lib.hid (show numsFrom k j f (ws.drop j) ((placesK k).drop j) = (match numB ws[j] with | some n => if lowK k j ≤ (n : Int) ∧ (n : Int) ≤ highK k then numsFrom k (j + 1) (f.set (placesK k)[j] n) (ws.drop (j + 1)) ((placesK k).drop (j + 1)) else none | none => none) by
                rw [List.drop_eq_getElem_cons hjw, List.drop_eq_getElem_cons hjl, numsFrom]
                cases numB ws[j] <;> rfl)
              have NB := Lib.hid (fun lo hi u => number_any ws[j] lo hi u (HS.out _ (List.getElem_mem hjw)))
              have NC := Lib.hid (numR_cases ws[j] (lowK k j) (highK k))
              obtain ⟨T, hT⟩ : ∃ T, ba ws[j] = T := ⟨_, rfl⟩
              rw [hT] at c1 NB
              obtain ⟨p, hp⟩ : ∃ p, (placesK k)[j] = p := ⟨_, rfl⟩
              rw [hp] at PK NF fa
              obtain ⟨P1, P2⟩ := PK
              have lc := (hbl.cell p).trans (layA_at f _ (by omega))
              have lq := hbl.frozen p
              have LB := Lib.hid hbl
              obtain ⟨lo, hlo⟩ : ∃ lo, lowK k j = lo := ⟨_, rfl⟩
              obtain ⟨hi', hhi⟩ : ∃ hi', highK k = hi' := ⟨_, rfl⟩
              rw [hlo] at fl NF NC
              rw [hhi] at fh NF NC
              clear RA RL RH RB ca cl ch ne hT hp hbl hnum hgb hex bx hlo hhi
              go_wp2_with fail
              go_quiet (first | (go_at_call 54; exact q0 (NB.out _ _ _)))
              rw [show fnV p = .func (.func (fieldFn p)) #[] #[] from rfl]
              rcases NC.out with ⟨m, n1, n2, n3, n4⟩ | ⟨n1, n2⟩
              · rw [n4]
                have NF2 := Lib.hid (show numsFrom k j f (ws.drop j) ((placesK k).drop j) = numsFrom k (j + 1) (f.set p m) (ws.drop (j + 1)) ((placesK k).drop (j + 1)) by
                  rw [NF.out, n1]; simp only; rw [if_pos ⟨n2, n3⟩])
                have FA := Lib.hid (fun u => field_any P1 P2 w.heap.size u)
                clear n1 n2 n3 n4 NF NC NB fa fl fh c1 y3 y4
                go_wp2_with fail
                rw [field_enters P1 P2]
                change Calls _ _ _ _ _
                refine (FA.out _).mono ?_
                rintro e w' ⟨rfl, rfl⟩
                have L2 := Lib.hid (show Blk ((V.drewN nq).setCell ⟨w.heap.size, p, none⟩ (.int .i64 m)) w.heap.size 49 (layA (f.set p m) (.slice none 0 0)) by
                  rw [← layA_set f _ (by omega)]; exact (LB.out.drewN nq).set_ p _)
                have G2 := Lib.hid (((GBX.out.ext ((Ext.refl V).drewN nq)).set p (.int .i64 m)))
                have E2 := Lib.hid ((XJ.out.drewN nq).setCell (p := ⟨w.heap.size, p, none⟩) (Nat.le_refl _) (.int .i64 m))
                clear FA GBX XJ LB OS
                go_wp2_with fail
                exact ⟨⟨j + 1, f.set p m, by omega, by go_num, by rw [← NF2.out]; exact NUM.out, L2.out, G2.out, E2.out⟩, by simp [intOf]; omega⟩
              · have HV := Lib.hid (show oneV (oneS (x :: ws)) = .tuple #[.agg (layA LayF.zero (.slice none 0 0)), .bool false] by
                  rw [OS.out, NUM.out, NF.out]
                  cases h : numB ws[j] with
                  | none => rfl
                  | some m => simp only; rw [if_neg (n1 m h)]; rfl)
                rw [n2]
                obtain ⟨k0, k1, k2, k3, k4, k5, k6, k7, k8, q0, q1, q2, q3, q4, q5, q6, q7, q8⟩ := LB.out.lay
                have xw := XJ.out
                have zv := xw.size
                clear n1 n2 NF NC NB fa fl fh c1 y3 y4 lc lq OS NUM
                go_wp2_with fail
                rw [HV.out]
                simp [bodyPost, results, Tryd.results66, go_sem, *]
                exact ⟨rfl, (by repeat (first | with_reducible exact Ext.refl _ | with_reducible apply Ext.drew | with_reducible apply Ext.drewN | with_reducible apply Ext.alloc | ((with_reducible refine Ext.setCell ?_ ?_ _); rotate_left; focus (first | (simp; done) | (simp; omega) | omega)) | with_reducible refine Ext.tr ?_ x1 | with_reducible refine Ext.tr ?_ hext | with_reducible assumption))⟩
            · obtain rfl : j = (placesK k).length := by omega
              have hz : ¬ ((placesK k).length : Int) < ((placesK k).length : Int) := by omega
              have HV := Lib.hid (show oneV (oneS (x :: ws)) = .tuple #[.agg (layA f (.slice none 0 0)), .bool true] by
                rw [OS.out, NUM.out, List.drop_of_length_le (by omega), List.drop_length]; rfl)
              obtain ⟨k0, k1, k2, k3, k4, k5, k6, k7, k8, q0, q1, q2, q3, q4, q5, q6, q7, q8⟩ := hbl.lay
              have xw := XJ.out
              clear OS NUM hnum hbl hgb RA RL RH RB e
              go_wp2_with fail
              rw [HV.out]
              simp [bodyPost, results, Tryd.results66, go_sem, *]
              exact ⟨rfl, (by repeat (first | with_reducible exact Ext.refl _ | with_reducible apply Ext.drew | with_reducible apply Ext.drewN | with_reducible apply Ext.alloc | ((with_reducible refine Ext.setCell ?_ ?_ _); rotate_left; focus (first | (simp; done) | (simp; omega) | omega)) | with_reducible refine Ext.tr ?_ x1 | with_reducible refine Ext.tr ?_ hext | with_reducible assumption))⟩
        · have w2 : (((ws.length : Int) + 1) != (1 + ((placesK k).length : Int))) = true := by simp; omega
          have HV := Lib.hid (show oneV (oneS (x :: ws)) = .tuple #[.agg (layA LayF.zero (.slice none 0 0)), .bool false] by rw [OS.out, numsFrom_len hl]; rfl)
          clear NX KB RA RL RH RB OS e hl
          go_wp2_with fail
          rw [HV.out]
          have xw := XW2.out
          simp [bodyPost, results, Tryd.results66, go_sem, *]
          exact ⟨rfl, (by repeat (first | with_reducible exact Ext.refl _ | with_reducible apply Ext.drew | with_reducible apply Ext.drewN | with_reducible apply Ext.alloc | ((with_reducible refine Ext.setCell ?_ ?_ _); rotate_left; focus (first | (simp; done) | (simp; omega) | omega)) | with_reducible refine Ext.tr ?_ x1 | with_reducible refine Ext.tr ?_ hext | with_reducible assumption))⟩
      · rw [decide_eq_false e] at SN
        have N2 := Lib.hid (NX.out (fun h => e h.symm))
        have XV := Lib.hid hext
        clear NX e RA RL RH RB KB bl
        go_wp2_with fail
        go_quiet (fail)
        go_wp2_with fail
        exact ⟨⟨i + 1, by omega, by go_num, N2.out, XV.out.tr (by repeat (first | with_reducible exact Ext.refl _ | with_reducible apply Ext.drew | with_reducible apply Ext.drewN | with_reducible apply Ext.alloc | ((with_reducible refine Ext.setCell ?_ ?_ _); rotate_left; focus (first | (simp; done) | (simp; omega) | omega)) | with_reducible refine Ext.tr ?_ x1 | with_reducible refine Ext.tr ?_ hext | with_reducible assumption))⟩, by simp [intOf]; omega⟩
    · obtain rfl : i = 12 := by omega
      have hz : ¬ (12 : Int) < 12 := by omega
      have OS : oneS (x :: ws) = none := by
        simp only [oneS]
        rw [kindB_none NO.out]
      have HV := Lib.hid (show oneV (oneS (x :: ws)) = .tuple #[.agg (layA LayF.zero (.slice none 0 0)), .bool false] by rw [OS]; rfl)
      have LB := Lib.hid bl
      obtain ⟨k0, k1, k2, k3, k4, k5, k6, k7, k8, q0, q1, q2, q3, q4, q5, q6, q7, q8⟩ := bl.lay
      clear OS bl NO LW
      go_wp2
      rw [HV.out]
      have xw := XW.out
      simp [bodyPost, results, Tryd.results66, go_sem, *]
      exact ⟨rfl, (by repeat (first | with_reducible exact Ext.refl _ | with_reducible apply Ext.drew | with_reducible apply Ext.drewN | with_reducible apply Ext.alloc | ((with_reducible refine Ext.setCell ?_ ?_ _); rotate_left; focus (first | (simp; done) | (simp; omega) | omega)) | with_reducible refine Ext.tr ?_ x1 | with_reducible refine Ext.tr ?_ hext | with_reducible assumption))⟩
end Go.Proofs.YtfimmcnfmipnlaaDoor
