/- Rows of numbers cloned, copied. Generators with scripts of their own. rng.Below, seed.count; generators compared. -/
import Derived.Test.YtkegefnpmijfiaaGreatQLists
import Derived.Test.YtkegefnpmijfiaaGreatQGbI
import Derived.Test.YtkegefnpmijfiaaGreatQRand
import Derived.Test.YtkegefnpmijfiaaGreatQGens
import Derived.Lib.SliceRun
import Derived.Deep.AppendLies
import Derived.BigRegion
namespace Go.Proofs.YtkegefnpmijfiaaGreat
open Go.RowKit
theorem hxc_of {k : IntKind} {w : World} {a : Option Addr} {n c : Nat} {ds : List Int} (h : Row k w (.slice a n c) ds) (hn : ds ≠ []) : ∃ b o, a = some ⟨b, o, none⟩ ∧ ∀ i, i < ds.length → w.cell? ⟨b, o + i, none⟩ = some (.int k (ds.getD i 0)) := by
  obtain ⟨a', c', e, h1, h2, h3⟩ := h
  cases e
  exact h3 hn
theorem Row.form' {k : IntKind} {w : World} {v : Value} {ds : List Int} (h : Row k w v ds) : ∃ a cap, v = .slice a ds.length cap ∧ ds.length ≤ 9223372036854775807 := by
  obtain ⟨a, cap, rfl, h1, h2, -⟩ := h
  exact ⟨a, cap, rfl, by unfold maxLen at h2; omega⟩
theorem newsC_1 (w : World) (v : Value) (t : TypeId) : ∀ j u, [v][j]? = some u → (w.alloc (.cells #[v] t)).cell? ((⟨w.heap.size, 0, none⟩ : Addr).add j) = some u :=
  World.news_of_block (cs := #[v]) (t := t) (fr := (0, 0)) (heap_alloc_new w _)
theorem oneC_1 (k : IntKind) (x : Int) : ∀ u ∈ [Value.int k x], u.oneCell' = true := by
  intro u hu; simp at hu; subst hu; rfl
theorem cloneU_info : (Tryz.prog.info? 59).map (fun i => (i.zero, i.size, i.bytes)) = some (some (.int .u64 0), 1, 8) := by kernel_rfl
theorem cloneU_eql (w : World) (a : Option Addr) (n c n' c' : Nat) : (binOp .eql 58 (.slice a n c) (.slice none n' c')).run Tryz.prog w = .ok (.bool a.isNone) w := Lib.run_eql_slice_nil w _ _ a n c n' c' Tryz.underlying58
set_option maxHeartbeats 2000000 in
set_option maxRecDepth 100000 in
theorem cloneU_some {b off c : Nat} {zs : List Int} {w : World} (hR : Row .u64 w (.slice (some ⟨b, off, none⟩) zs.length c) zs) (hl : zs.length ≤ 1000000) (h0 : 0 < zs.length) :
    Calls Tryz.prog 191 #[.slice (some ⟨b, off, none⟩) zs.length c] w fun e w' => ∃ v, e = .returned v ∧ Ext w w' ∧ w'.ownsRow w.heap.size 59 1 v zs.length (zs.map (Value.int .u64)) := by
  obtain ⟨i0, hi0, hz0, hz1, hz2⟩ := info_parts cloneU_info
  have q22 := cloneU_eql
  have A : Hid (∀ j, j < zs.length → w.cell? ⟨b, off + j, none⟩ = some (.int .u64 (zs.getD j 0))) := Lib.hid (fun j hj => by
    obtain ⟨b', o', e, h⟩ := hxc_of hR (by intro h; rw [h] at h0; simp at h0)
    cases e
    exact h j hj)
  clear hR
  go_enter Tryz.func191, Tryz.ntmps191
  go_wp2_with (at_builtin; refine wpList_append_own _ rfl _ _ 58 rfl w.heap.size 59 i0 (.int .u64 0) 1 8 Tryz.underlying58 hi0 hz0 hz1 hz2 rfl (by decide) _ _ _ rfl (World.ownsRow_made w #[] 0 (Nat.le_refl _) (Nat.zero_le _) rfl) ⟨b, off, none⟩ zs.length c (zs.map (Value.int .u64)) rfl ?qc1 ?qc2 ?qc3 ?qc4 ?qc5 ?qc6 ?_)
  case qc1 => simp
  case qc2 =>
    intro j u hj
    have hjn : j < zs.length := by
      have := (List.getElem?_eq_some_iff.1 hj).1
      simpa using this
    rw [Addr.add_lit]
    refine Lib.cell?_alloc_some _ ?_
    rw [A.out j hjn]
    have e : (zs.map (Value.int .u64))[j]? = some (Value.int .u64 (zs.getD j 0)) := by simp [List.getD, List.getElem?_eq_getElem hjn]
    rw [e] at hj
    exact hj
  case qc3 => intro u hu; obtain ⟨x, _, rfl⟩ := List.mem_map.1 hu; rfl
  case qc4 => unfold maxLen; omega
  case qc5 => omega
  case qc6 => simp
  intro v' w1 hown hgrow hnil
  go_wp2
  go_ret
  refine ⟨v', rfl, ?_, by simpa using hown⟩
  exact ((Below.refl _ w).alloc (Nat.le_refl _) _).grown hgrow (by simp) (by intro k hk; simp [Value.ownBlock] at hk; omega)
theorem cloneU_empty (ad : Addr) (c : Nat) (w : World) :
    Calls Tryz.prog 191 #[.slice (some ad) 0 c] w fun e w' => ∃ v, e = .returned v ∧ Ext w w' ∧ w'.ownsRow w.heap.size 59 1 v 0 (([] : List Int).map (Value.int .u64)) := by
  obtain ⟨i0, hi0, hz0, hz1, hz2⟩ := info_parts cloneU_info
  have q22 := cloneU_eql
  go_enter Tryz.func191, Tryz.ntmps191
  go_wp2_with (at_builtin; refine wpList_append_own _ rfl _ _ 58 rfl w.heap.size 59 i0 (.int .u64 0) 1 8 Tryz.underlying58 hi0 hz0 hz1 hz2 rfl (by decide) _ _ _ rfl (World.ownsRow_made w #[] 0 (Nat.le_refl _) (Nat.zero_le _) rfl) ad 0 c [] rfl rfl (by intro j u h; simp at h) (by intro u h; simp at h) (by unfold maxLen; omega) (by omega) (by simp) ?_)
  intro v' w1 hown hgrow hnil
  go_wp2
  go_ret
  refine ⟨v', rfl, ?_, by simpa using hown⟩
  exact ((Below.refl _ w).alloc (Nat.le_refl _) _).grown hgrow (by simp) (by intro k hk; simp [Value.ownBlock] at hk; omega)
theorem cloneU_nil (c : Nat) (w : World) :
    Calls Tryz.prog 191 #[.slice none 0 c] w fun e w' => e = .returned (.slice none 0 0) ∧ Ext w w' := by
  have q22 := cloneU_eql
  go_enter Tryz.func191, Tryz.ntmps191
  go_wp2
  go_ret
  exact ⟨rfl, Ext.q⟩
theorem cloneU_any {v : Value} {zs : List Int} {w : World} (h : Row .u64 w v zs) (hl : zs.length ≤ 1000000) :
    Calls Tryz.prog 191 #[v] w fun e w' => ∃ v', e = .returned v' ∧ Ext w w' ∧ w'.ownsRow w.heap.size 59 1 v' zs.length (zs.map (Value.int .u64)) := by
  rcases Nat.eq_zero_or_pos zs.length with h0 | h0
  · obtain rfl := List.length_eq_zero_iff.1 h0
    obtain ⟨a, c, rfl, -⟩ := h
    cases a with
    | none => exact (cloneU_nil c w).mono (by rintro e w' ⟨rfl, x⟩; exact ⟨_, rfl, x, World.ownsRow_nil _ _ _ _⟩)
    | some ad => exact cloneU_empty ad c w
  · obtain ⟨a, c, rfl, -⟩ := h.form'
    obtain ⟨b, o, rfl, -⟩ := hxc_of h (by intro e; rw [e] at h0; simp at h0)
    exact cloneU_some h hl h0
theorem cloneI_info : (Tryz.prog.info? 3).map (fun i => (i.zero, i.size, i.bytes)) = some (some (.int .i64 0), 1, 8) := by kernel_rfl
theorem cloneI_eql (w : World) (a : Option Addr) (n c n' c' : Nat) : (binOp .eql 23 (.slice a n c) (.slice none n' c')).run Tryz.prog w = .ok (.bool a.isNone) w := Lib.run_eql_slice_nil w _ _ a n c n' c' Tryz.underlying23
set_option maxHeartbeats 2000000 in
set_option maxRecDepth 100000 in
theorem cloneI_some {b off c : Nat} {zs : List Int} {w : World} (hR : Row .i64 w (.slice (some ⟨b, off, none⟩) zs.length c) zs) (hl : zs.length ≤ 1000000) (h0 : 0 < zs.length) :
    Calls Tryz.prog 163 #[.slice (some ⟨b, off, none⟩) zs.length c] w fun e w' => ∃ v, e = .returned v ∧ Ext w w' ∧ w'.ownsRow w.heap.size 3 1 v zs.length (zs.map (Value.int .i64)) := by
  obtain ⟨i0, hi0, hz0, hz1, hz2⟩ := info_parts cloneI_info
  have q22 := cloneI_eql
  have A : Hid (∀ j, j < zs.length → w.cell? ⟨b, off + j, none⟩ = some (.int .i64 (zs.getD j 0))) := Lib.hid (fun j hj => by
    obtain ⟨b', o', e, h⟩ := hxc_of hR (by intro h; rw [h] at h0; simp at h0)
    cases e
    exact h j hj)
  clear hR
  go_enter Tryz.func163, Tryz.ntmps163
  go_wp2_with (at_builtin; refine wpList_append_own _ rfl _ _ 23 rfl w.heap.size 3 i0 (.int .i64 0) 1 8 Tryz.underlying23 hi0 hz0 hz1 hz2 rfl (by decide) _ _ _ rfl (World.ownsRow_made w #[] 0 (Nat.le_refl _) (Nat.zero_le _) rfl) ⟨b, off, none⟩ zs.length c (zs.map (Value.int .i64)) rfl ?qc1 ?qc2 ?qc3 ?qc4 ?qc5 ?qc6 ?_)
  case qc1 => simp
  case qc2 =>
    intro j u hj
    have hjn : j < zs.length := by
      have := (List.getElem?_eq_some_iff.1 hj).1
      simpa using this
    rw [Addr.add_lit]
    refine Lib.cell?_alloc_some _ ?_
    rw [A.out j hjn]
    have e : (zs.map (Value.int .i64))[j]? = some (Value.int .i64 (zs.getD j 0)) := by simp [List.getD, List.getElem?_eq_getElem hjn]
    rw [e] at hj
    exact hj
  case qc3 => intro u hu; obtain ⟨x, _, rfl⟩ := List.mem_map.1 hu; rfl
  case qc4 => unfold maxLen; omega
  case qc5 => omega
  case qc6 => simp
  intro v' w1 hown hgrow hnil
  go_wp2
  go_ret
  refine ⟨v', rfl, ?_, by simpa using hown⟩
  exact ((Below.refl _ w).alloc (Nat.le_refl _) _).grown hgrow (by simp) (by intro k hk; simp [Value.ownBlock] at hk; omega)
theorem cloneI_empty (ad : Addr) (c : Nat) (w : World) :
    Calls Tryz.prog 163 #[.slice (some ad) 0 c] w fun e w' => ∃ v, e = .returned v ∧ Ext w w' ∧ w'.ownsRow w.heap.size 3 1 v 0 (([] : List Int).map (Value.int .i64)) := by
  obtain ⟨i0, hi0, hz0, hz1, hz2⟩ := info_parts cloneI_info
  have q22 := cloneI_eql
  go_enter Tryz.func163, Tryz.ntmps163
  go_wp2_with (at_builtin; refine wpList_append_own _ rfl _ _ 23 rfl w.heap.size 3 i0 (.int .i64 0) 1 8 Tryz.underlying23 hi0 hz0 hz1 hz2 rfl (by decide) _ _ _ rfl (World.ownsRow_made w #[] 0 (Nat.le_refl _) (Nat.zero_le _) rfl) ad 0 c [] rfl rfl (by intro j u h; simp at h) (by intro u h; simp at h) (by unfold maxLen; omega) (by omega) (by simp) ?_)
  intro v' w1 hown hgrow hnil
  go_wp2
  go_ret
  refine ⟨v', rfl, ?_, by simpa using hown⟩
  exact ((Below.refl _ w).alloc (Nat.le_refl _) _).grown hgrow (by simp) (by intro k hk; simp [Value.ownBlock] at hk; omega)
theorem cloneI_nil (c : Nat) (w : World) :
    Calls Tryz.prog 163 #[.slice none 0 c] w fun e w' => e = .returned (.slice none 0 0) ∧ Ext w w' := by
  have q22 := cloneI_eql
  go_enter Tryz.func163, Tryz.ntmps163
  go_wp2
  go_ret
  exact ⟨rfl, Ext.q⟩
theorem cloneI_any {v : Value} {zs : List Int} {w : World} (h : Row .i64 w v zs) (hl : zs.length ≤ 1000000) :
    Calls Tryz.prog 163 #[v] w fun e w' => ∃ v', e = .returned v' ∧ Ext w w' ∧ w'.ownsRow w.heap.size 3 1 v' zs.length (zs.map (Value.int .i64)) := by
  rcases Nat.eq_zero_or_pos zs.length with h0 | h0
  · obtain rfl := List.length_eq_zero_iff.1 h0
    obtain ⟨a, c, rfl, -⟩ := h
    cases a with
    | none => exact (cloneI_nil c w).mono (by rintro e w' ⟨rfl, x⟩; exact ⟨_, rfl, x, World.ownsRow_nil _ _ _ _⟩)
    | some ad => exact cloneI_empty ad c w
  · obtain ⟨a, c, rfl, -⟩ := h.form'
    obtain ⟨b, o, rfl, -⟩ := hxc_of h (by intro e; rw [e] at h0; simp at h0)
    exact cloneI_some h hl h0
theorem copyN_info : (Tryz.prog.info? 3).map (fun i => (i.zero, i.size, i.bytes)) = some (some (.int .i64 0), 1, 8) := by kernel_rfl
set_option maxHeartbeats 1000000 in
theorem copyN_any {v : Value} {zs : List Int} {w : World} (h : Row .i64 w v zs) (hl : zs.length ≤ 1000000) :
    Calls Tryz.prog 85 #[v] w fun e w' => ∃ v', e = .returned v' ∧ Ext w w' ∧ w'.ownsRow w.heap.size 3 1 v' zs.length (zs.map (Value.int .i64)) := by
  obtain ⟨i0, hi0, hz0, hz1, hz2⟩ := info_parts copyN_info
  obtain ⟨a, cap, rfl, hx1, hx2, hx3⟩ := h
  unfold maxLen at hx2
  have HX := Lib.hid hx3
  clear hx3
  go_enter Tryz.func85, Tryz.ntmps85
  go_wp2_with fail
  go_loopw [3, 4] (fun m i wr => ∃ k : Nat, k ≤ zs.length ∧ i = .int .i64 k ∧ wr.ownsRow w.heap.size 3 1 m k ((zs.take k).map (Value.int .i64)) ∧ Ext w wr) (fun _ i _ => zs.length - (intOf i).toNat)
  case atStart => exact ⟨0, Nat.zero_le _, rfl, World.ownsRow_nil _ _ _ _, Ext.refl _⟩
  case round =>
    obtain ⟨k, hk, rfl, hown, hext⟩ := hrel
    rcases Nat.lt_or_ge k zs.length with hlt | hge
    · obtain ⟨bx, ox, rfl, cx⟩ := HX.out (fun h => by subst h; simp at hlt)
      have c1 := hext.cell (cx k hlt)
      have T1 := Lib.hid (take_succ_getD zs k hlt)
      have hrow := hown.lt
      have hn2 : k + 1 ≤ maxLen := by unfold maxLen; omega
      have hn3 : (k + 1) * 8 ≤ 140737488355328 := by omega
      have hbase := hext.size
      clear cx
      generalize zs.getD k 0 = x at c1 T1
      go_wp2_with (at_builtin; refine wpList_append_own _ rfl _ _ 23 rfl w.heap.size 3 i0 _ 1 8 Tryz.underlying23 hi0 hz0 hz1 hz2 rfl (by decide) _ _ _ rfl (hown.alloc _) ⟨wr.heap.size, 0, none⟩ 1 1 [.int .i64 x] rfl rfl (newsC_1 _ _ _) (oneC_1 _ _) hn2 hn3 (by simp; omega) ?_; intro v' w1 hown1 hgrow _)
      have X : Ext w w1 := Ext.grown (hext.alloc _) hgrow (fun r hr => (hrow r hr).1)
      clear hown hgrow c1 hrow
      go_wp2_with fail
      have hown2 : w1.ownsRow w.heap.size 3 1 v' (k + 1) ((zs.take (k + 1)).map (Value.int .i64)) := by
        rw [T1.out, List.map_append]; exact hown1
      exact ⟨⟨k + 1, by omega, by go_num, hown2, X⟩, by simp [intOf]; omega⟩
    · obtain rfl : k = zs.length := by omega
      rw [List.take_of_length_le (Nat.le_refl _)] at hown
      have HO := Lib.hid hown
      clear hown
      go_wp2
      go_ret
      exact ⟨_, rfl, hext, HO.out⟩
end Go.Proofs.YtkegefnpmijfiaaGreat
namespace Go.Proofs.YtkegefnpmijfiaaGreat
open Go.RowKit
attribute [local go_sem ↓] Go.wp_at_zero Go.wp_at_succ
theorem own_row5 {W : World} {base b n : Nat} {e : TypeId} {v : Value} {xs : List Value} (r : W.ownsRow base e 1 v n xs) (h : b < base) (x0 x1 x2 x3 x4 : Value) :
    (((((W.setCell ⟨b, 0, none⟩ x0).setCell ⟨b, 1, none⟩ x1).setCell ⟨b, 2, none⟩ x2).setCell ⟨b, 3, none⟩ x3).setCell ⟨b, 4, none⟩ x4).ownsRow base e 1 v n xs :=
  ownsRow_setCell_below (ownsRow_setCell_below (ownsRow_setCell_below (ownsRow_setCell_below (ownsRow_setCell_below r h _) h _) h _) h _) h _
theorem own_ext5 {w W : World} {b : Nat} (x : Ext w W) (h : w.heap.size ≤ b) (x0 x1 x2 x3 x4 : Value) :
    Ext w (((((W.setCell ⟨b, 0, none⟩ x0).setCell ⟨b, 1, none⟩ x1).setCell ⟨b, 2, none⟩ x2).setCell ⟨b, 3, none⟩ x3).setCell ⟨b, 4, none⟩ x4) :=
  Ext.setCell (Ext.setCell (Ext.setCell (Ext.setCell (Ext.setCell x h _) h _) h _) h _) h _
/-- A generator whose script lies in new memory: none of the blocks below base. -/
def RandNew (base : Nat) (w : World) (v : Value) (g : Gen) : Prop :=
  ∃ a c, v = .agg #[.slice a g.script.length c, .int .u64 (iv g.st.a), .int .u64 (iv g.st.b), .int .u64 (iv g.st.c), .int .u64 (iv g.st.d)] ∧ w.ownsRow base 59 1 (.slice a g.script.length c) g.script.length (g.script.map (Value.int .u64))
theorem RandNew.at {base : Nat} {w : World} {v : Value} {g : Gen} (h : RandNew base w v g) : RandAt w v g := by
  obtain ⟨a, c, rfl, r⟩ := h
  exact ⟨a, c, rfl, (Row.of_owns r).1⟩
theorem RandNew.ext {base : Nat} {w w' : World} {v : Value} {g : Gen} (h : RandNew base w v g) (x : Ext w w') : RandNew base w' v g := by
  obtain ⟨a, c, rfl, r⟩ := h
  exact ⟨a, c, rfl, own_old r x⟩
theorem RandNew.base {base base' : Nat} {w : World} {v : Value} {g : Gen} (h : RandNew base w v g) (hb : base' ≤ base) : RandNew base' w v g := by
  obtain ⟨a, c, rfl, r⟩ := h
  exact ⟨a, c, rfl, own_base r hb⟩
theorem RandNew.set5 {base b : Nat} {w : World} {v : Value} {g : Gen} (h : RandNew base w v g) (hb : b < base) (x0 x1 x2 x3 x4 : Value) : RandNew base (((((w.setCell ⟨b, 0, none⟩ x0).setCell ⟨b, 1, none⟩ x1).setCell ⟨b, 2, none⟩ x2).setCell ⟨b, 3, none⟩ x3).setCell ⟨b, 4, none⟩ x4) v g := by
  obtain ⟨a, c, rfl, r⟩ := h
  exact ⟨a, c, rfl, own_row5 r hb x0 x1 x2 x3 x4⟩
set_option maxRecDepth 100000 in
set_option maxHeartbeats 2000000 in
theorem own_seed {v : Value} {g : Gen} {w : World} (h : RandAt w v g) (hl : g.script.length ≤ 1000000) :
    Calls Tryz.prog 121 #[v] w fun e w' => ∃ v', e = .returned v' ∧ Ext w w' ∧ RandNew w.heap.size w' v' g := by
  obtain ⟨a, c, rfl, hr⟩ := h
  obtain ⟨sc, ⟨A, B, C, D⟩⟩ := g
  simp only at hr hl ⊢
  have H : Hid (∀ W : World, Ext w W → Calls Tryz.prog 191 #[.slice a sc.length c] W fun e w' => ∃ a' c', e = .returned (.slice a' sc.length c') ∧ Ext W w' ∧ Hid (w'.ownsRow W.heap.size 59 1 (.slice a' sc.length c') sc.length (sc.map (Value.int .u64)))) := Lib.hid (fun (W : World) (x : Ext w W) => (cloneU_any (hr.ext x) hl).mono (by
    rintro e w' ⟨u, rfl, x, r⟩
    have r' := (Row.of_owns r).1
    obtain ⟨a', c', rfl, -⟩ := r'.form'
    exact ⟨a', c', rfl, x, Lib.hid r⟩))
  clear hr
  go_enter Tryz.func121, Tryz.ntmps121
  go_wp2
  go_region_with (go_at_call 191; refine (H.out _ Ext.q).mono ?_; rintro e v1 ⟨u1, u2, rfl, x1, r1⟩; obtain ⟨c1, f1⟩ := x1.rules; have z1 := x1.size; have lq := fun o => c1 (w.heap.size) o (by first | (simp; done) | (simp; omega) | omega); have mq := fun o => f1 (w.heap.size) o (by first | (simp; done) | (simp; omega) | omega); have k1_0_0 := lq 0; have q1_0_0 := mq 0; have k1_0_1 := lq 1; have q1_0_1 := mq 1; have k1_0_2 := lq 2; have q1_0_2 := mq 2; have k1_0_3 := lq 3; have q1_0_3 := mq 3; have k1_0_4 := lq 4; have q1_0_4 := mq 4; clear lq mq; have lq := fun o => c1 (w.heap.size + 1) o (by first | (simp; done) | (simp; omega) | omega); have mq := fun o => f1 (w.heap.size + 1) o (by first | (simp; done) | (simp; omega) | omega); have k1_1_0 := lq 0; have q1_1_0 := mq 0; have k1_1_1 := lq 1; have q1_1_1 := mq 1; have k1_1_2 := lq 2; have q1_1_2 := mq 2; have k1_1_3 := lq 3; have q1_1_3 := mq 3; have k1_1_4 := lq 4; have q1_1_4 := mq 4; clear lq mq; have z1_0 : w.heap.size < v1.heap.size := (by (try simp at z1); omega); have z1_1 : w.heap.size + 1 < v1.heap.size := (by (try simp at z1); omega); (try simp at z1); clear c1 f1; simp [go_sem, *] at k1_0_0 q1_0_0 k1_0_1 q1_0_1 k1_0_2 q1_0_2 k1_0_3 q1_0_3 k1_0_4 q1_0_4 k1_1_0 q1_1_0 k1_1_1 q1_1_1 k1_1_2 q1_1_2 k1_1_3 q1_1_3 k1_1_4 q1_1_4)
  all_goals
    go_wp2
    simp [bodyPost, results, Tryz.results121, go_sem, *]
    exact ⟨own_ext5 Ext.q (by omega) _ _ _ _ _, _, _, rfl, own_base (own_row5 r1.out (by simp) _ _ _ _ _) (by first | (simp; done) | (simp; omega))⟩
end Go.Proofs.YtkegefnpmijfiaaGreat
namespace Go.Proofs.YtkegefnpmijfiaaGreat
open Go.RowKit
attribute [local go_sem ↓] Go.wp_at_zero Go.wp_at_succ
theorem seedCount_ok (n : Int) (h1 : 1 ≤ n) (h2 : n ≤ 65536) (w : World) : Calls Tryz.prog 119 #[.int .i64 n] w fun e w' => e = .returned (.bool true) ∧ w = w' := by
  go_enter Tryz.func119, Tryz.ntmps119
  go_wp2
  go_ret
  exact ⟨rfl, rfl⟩
/-- The same generator twice. -/
theorem eq_rand {g : Gen} {u v : Value} {w : World} (hu : RandAt w u g) (hv : RandAt w v g) :
    Calls Tryz.prog 40 #[u, v] w fun e w' => e = .returned (.bool true) ∧ Ext w w' := by
  obtain ⟨a, c, rfl, hr⟩ := hu
  obtain ⟨a', c', rfl, hr'⟩ := hv
  obtain ⟨sc, ⟨A, B, C, D⟩⟩ := g
  simp only at hr hr' ⊢
  have H : Hid (∀ W : World, Ext w W → Calls Tryz.prog 124 #[.slice a sc.length c, .slice a' sc.length c'] W fun e w' => e = .returned (.bool true) ∧ Ext W w') := Lib.hid (fun W x => (eqDraws_any (hr.ext x) (hr'.ext x)).mono (by
    rintro e w' ⟨rfl, k, rfl⟩
    exact ⟨by simp, by exact (Ext.refl _).drewN _⟩))
  have R := fun (w : World) => run_eq4 w (iv A) (iv B) (iv C) (iv D) (iv A) (iv B) (iv C) (iv D)
  simp only [beq_self_eq_true, Bool.and_self] at R
  generalize iv A = x0 at *
  generalize iv B = x1 at *
  generalize iv C = x2_ at *
  generalize iv D = x3 at *
  clear hr hr'
  go_enter Tryz.func40, Tryz.ntmps40
  go_wp2_with fail
  refine (H.out _ Ext.q).mono ?_; rintro e v2 ⟨rfl, x2⟩; obtain ⟨c2, f2⟩ := x2.rules; have z2 := x2.size; have lq := fun o => c2 (w.heap.size) o (by first | (simp; done) | (simp; omega) | omega); have mq := fun o => f2 (w.heap.size) o (by first | (simp; done) | (simp; omega) | omega); have k2_0_0 := lq 0; have q2_0_0 := mq 0; have k2_0_1 := lq 1; have q2_0_1 := mq 1; have k2_0_2 := lq 2; have q2_0_2 := mq 2; have k2_0_3 := lq 3; have q2_0_3 := mq 3; have k2_0_4 := lq 4; have q2_0_4 := mq 4; clear lq mq; have lq := fun o => c2 (w.heap.size + 1) o (by first | (simp; done) | (simp; omega) | omega); have mq := fun o => f2 (w.heap.size + 1) o (by first | (simp; done) | (simp; omega) | omega); have k2_1_0 := lq 0; have q2_1_0 := mq 0; have k2_1_1 := lq 1; have q2_1_1 := mq 1; have k2_1_2 := lq 2; have q2_1_2 := mq 2; have k2_1_3 := lq 3; have q2_1_3 := mq 3; have k2_1_4 := lq 4; have q2_1_4 := mq 4; clear lq mq; have z2_0 : w.heap.size < v2.heap.size := (by (try simp at z2); omega); have z2_1 : w.heap.size + 1 < v2.heap.size := (by (try simp at z2); omega); (try simp at z2); clear c2 f2; simp [go_sem, *] at k2_0_0 q2_0_0 k2_0_1 q2_0_1 k2_0_2 q2_0_2 k2_0_3 q2_0_3 k2_0_4 q2_0_4 k2_1_0 q2_1_0 k2_1_1 q2_1_1 k2_1_2 q2_1_2 k2_1_3 q2_1_3 k2_1_4 q2_1_4
  go_wp2
  go_ret
  exact ⟨rfl, Ext.q⟩
end Go.Proofs.YtkegefnpmijfiaaGreat
