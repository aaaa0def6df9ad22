/- Rows of numbers cloned, copied. -/
import Derived.Test.YtgokenbojppnhaaDoorLists
import Derived.Test.YtgokenbojppnhaaDoorGb
import Derived.Lib.SliceRun
import Derived.Deep.AppendLies
import Derived.BigRegion
namespace Go.Proofs.YtgokenbojppnhaaDoor
open Go.RowKit
theorem hxc_of {k : IntKind} {w : World} {a : Option Addr} {n c : Nat} {ds : List Int} (h : Row k w (.slice a n c) ds) (hn : ds ≠ []) : ∃ b o, a = some ⟨b, o, none⟩ ∧ ∀ i, i < ds.length → w.cell? ⟨b, o + i, none⟩ = some (.int k (ds.getD i 0)) := by
  obtain ⟨a', c', e, h1, h2, h3⟩ := h
  cases e
  exact h3 hn
theorem Row.form' {k : IntKind} {w : World} {v : Value} {ds : List Int} (h : Row k w v ds) : ∃ a cap, v = .slice a ds.length cap ∧ ds.length ≤ 9223372036854775807 := by
  obtain ⟨a, cap, rfl, h1, h2, -⟩ := h
  exact ⟨a, cap, rfl, by unfold maxLen at h2; omega⟩
theorem newsC_1 (w : World) (v : Value) (t : TypeId) : ∀ j u, [v][j]? = some u → (w.alloc (.cells #[v] t)).cell? ((⟨w.heap.size, 0, none⟩ : Addr).add j) = some u :=
  World.news_of_block (cs := #[v]) (t := t) (fr := (0, 0)) (heap_alloc_new w _)
theorem oneC_1 (k : IntKind) (x : Int) : ∀ u ∈ [Value.int k x], u.oneCell' = true := by
  intro u hu; simp at hu; subst hu; rfl
theorem cloneU_info : (Tryd.prog.info? 95).map (fun i => (i.zero, i.size, i.bytes)) = some (some (.int .u64 0), 1, 8) := by kernel_rfl
theorem cloneU_eql (w : World) (a : Option Addr) (n c n' c' : Nat) : (binOp .eql 80 (.slice a n c) (.slice none n' c')).run Tryd.prog w = .ok (.bool a.isNone) w := Lib.run_eql_slice_nil w _ _ a n c n' c' Tryd.underlying80
theorem cloneI_info : (Tryd.prog.info? 3).map (fun i => (i.zero, i.size, i.bytes)) = some (some (.int .i64 0), 1, 8) := by kernel_rfl
theorem cloneI_eql (w : World) (a : Option Addr) (n c n' c' : Nat) : (binOp .eql 24 (.slice a n c) (.slice none n' c')).run Tryd.prog w = .ok (.bool a.isNone) w := Lib.run_eql_slice_nil w _ _ a n c n' c' Tryd.underlying24
set_option maxHeartbeats 2000000 in
set_option maxRecDepth 100000 in
theorem cloneI_some {b off c : Nat} {zs : List Int} {w : World} (hR : Row .i64 w (.slice (some ⟨b, off, none⟩) zs.length c) zs) (hl : zs.length ≤ 1000000) (h0 : 0 < zs.length) :
    Calls Tryd.prog 34 #[.slice (some ⟨b, off, none⟩) zs.length c] w fun e w' => ∃ v, e = .returned v ∧ Ext w w' ∧ w'.ownsRow w.heap.size 3 1 v zs.length (zs.map (Value.int .i64)) := by
  obtain ⟨i0, hi0, hz0, hz1, hz2⟩ := info_parts cloneI_info
  have q22 := cloneI_eql
  have A : Hid (∀ j, j < zs.length → w.cell? ⟨b, off + j, none⟩ = some (.int .i64 (zs.getD j 0))) := Lib.hid (fun j hj => by
    obtain ⟨b', o', e, h⟩ := hxc_of hR (by intro h; rw [h] at h0; simp at h0)
    cases e
    exact h j hj)
  clear hR
  go_enter Tryd.func34, Tryd.ntmps34
  go_wp2_with (at_builtin; refine wpList_append_own _ rfl _ _ 24 rfl w.heap.size 3 i0 (.int .i64 0) 1 8 Tryd.underlying24 hi0 hz0 hz1 hz2 rfl (by decide) _ _ _ rfl (World.ownsRow_made w #[] 0 (Nat.le_refl _) (Nat.zero_le _) rfl) ⟨b, off, none⟩ zs.length c (zs.map (Value.int .i64)) rfl ?qc1 ?qc2 ?qc3 ?qc4 ?qc5 ?qc6 ?_)
  case qc1 => simp
  case qc2 =>
    intro j u hj
    have hjn : j < zs.length := by
      have := (List.getElem?_eq_some_iff.1 hj).1
      simpa using this
    rw [Addr.add_lit]
    refine Lib.cell?_alloc_some _ ?_
    rw [A.out j hjn]
    have e : (zs.map (Value.int .i64))[j]? = some (Value.int .i64 (zs.getD j 0)) := by simp [List.getD, List.getElem?_eq_getElem hjn]
    rw [e] at hj
    exact hj
  case qc3 => intro u hu; obtain ⟨x, _, rfl⟩ := List.mem_map.1 hu; rfl
  case qc4 => unfold maxLen; omega
  case qc5 => omega
  case qc6 => simp
  intro v' w1 hown hgrow hnil
  go_wp2
  go_ret
  refine ⟨v', rfl, ?_, by simpa using hown⟩
  exact ((Below.refl _ w).alloc (Nat.le_refl _) _).grown hgrow (by simp) (by intro k hk; simp [Value.ownBlock] at hk; omega)
theorem cloneI_empty (ad : Addr) (c : Nat) (w : World) :
    Calls Tryd.prog 34 #[.slice (some ad) 0 c] w fun e w' => ∃ v, e = .returned v ∧ Ext w w' ∧ w'.ownsRow w.heap.size 3 1 v 0 (([] : List Int).map (Value.int .i64)) := by
  obtain ⟨i0, hi0, hz0, hz1, hz2⟩ := info_parts cloneI_info
  have q22 := cloneI_eql
  go_enter Tryd.func34, Tryd.ntmps34
  go_wp2_with (at_builtin; refine wpList_append_own _ rfl _ _ 24 rfl w.heap.size 3 i0 (.int .i64 0) 1 8 Tryd.underlying24 hi0 hz0 hz1 hz2 rfl (by decide) _ _ _ rfl (World.ownsRow_made w #[] 0 (Nat.le_refl _) (Nat.zero_le _) rfl) ad 0 c [] rfl rfl (by intro j u h; simp at h) (by intro u h; simp at h) (by unfold maxLen; omega) (by omega) (by simp) ?_)
  intro v' w1 hown hgrow hnil
  go_wp2
  go_ret
  refine ⟨v', rfl, ?_, by simpa using hown⟩
  exact ((Below.refl _ w).alloc (Nat.le_refl _) _).grown hgrow (by simp) (by intro k hk; simp [Value.ownBlock] at hk; omega)
theorem cloneI_nil (c : Nat) (w : World) :
    Calls Tryd.prog 34 #[.slice none 0 c] w fun e w' => e = .returned (.slice none 0 0) ∧ Ext w w' := by
  have q22 := cloneI_eql
  go_enter Tryd.func34, Tryd.ntmps34
  go_wp2
  go_ret
  exact ⟨rfl, (by repeat (first | with_reducible exact Ext.refl _ | with_reducible apply Ext.drew | with_reducible apply Ext.drewN | with_reducible apply Ext.alloc | ((with_reducible refine Ext.setCell ?_ ?_ _); rotate_left; focus (first | (simp; done) | (simp; omega) | omega)) | with_reducible refine Ext.tr ?_ hext | with_reducible assumption))⟩
theorem cloneI_any {v : Value} {zs : List Int} {w : World} (h : Row .i64 w v zs) (hl : zs.length ≤ 1000000) :
    Calls Tryd.prog 34 #[v] w fun e w' => ∃ v', e = .returned v' ∧ Ext w w' ∧ w'.ownsRow w.heap.size 3 1 v' zs.length (zs.map (Value.int .i64)) := by
  rcases Nat.eq_zero_or_pos zs.length with h0 | h0
  · obtain rfl := List.length_eq_zero_iff.1 h0
    obtain ⟨a, c, rfl, -⟩ := h
    cases a with
    | none => exact (cloneI_nil c w).mono (by rintro e w' ⟨rfl, x⟩; exact ⟨_, rfl, x, World.ownsRow_nil _ _ _ _⟩)
    | some ad => exact cloneI_empty ad c w
  · obtain ⟨a, c, rfl, -⟩ := h.form'
    obtain ⟨b, o, rfl, -⟩ := hxc_of h (by intro e; rw [e] at h0; simp at h0)
    exact cloneI_some h hl h0
theorem copyN_info : (Tryd.prog.info? 3).map (fun i => (i.zero, i.size, i.bytes)) = some (some (.int .i64 0), 1, 8) := by kernel_rfl
set_option maxHeartbeats 1000000 in
theorem copyN_any {v : Value} {zs : List Int} {w : World} (h : Row .i64 w v zs) (hl : zs.length ≤ 1000000) :
    Calls Tryd.prog 21 #[v] w fun e w' => ∃ v', e = .returned v' ∧ Ext w w' ∧ w'.ownsRow w.heap.size 3 1 v' zs.length (zs.map (Value.int .i64)) := by
  obtain ⟨i0, hi0, hz0, hz1, hz2⟩ := info_parts copyN_info
  obtain ⟨a, cap, rfl, hx1, hx2, hx3⟩ := h
  unfold maxLen at hx2
  have HX := Lib.hid hx3
  clear hx3
  go_enter Tryd.func21, Tryd.ntmps21
  go_wp2_with fail
  go_loopw [3, 4] (fun m i wr => ∃ k : Nat, k ≤ zs.length ∧ i = .int .i64 k ∧ wr.ownsRow w.heap.size 3 1 m k ((zs.take k).map (Value.int .i64)) ∧ Ext w wr) (fun _ i _ => zs.length - (intOf i).toNat)
  case atStart => exact ⟨0, Nat.zero_le _, rfl, World.ownsRow_nil _ _ _ _, Ext.refl _⟩
  case round =>
    obtain ⟨k, hk, rfl, hown, hext⟩ := hrel
    rcases Nat.lt_or_ge k zs.length with hlt | hge
    · obtain ⟨bx, ox, rfl, cx⟩ := HX.out (fun h => by subst h; simp at hlt)
      have c1 := hext.cell (cx k hlt)
      have T1 := Lib.hid (take_succ_getD zs k hlt)
      have hrow := hown.lt
      have hn2 : k + 1 ≤ maxLen := by unfold maxLen; omega
      have hn3 : (k + 1) * 8 ≤ 140737488355328 := by omega
      have hbase := hext.size
      clear cx
      generalize zs.getD k 0 = x at c1 T1
      go_wp2_with (at_builtin; refine wpList_append_own _ rfl _ _ 24 rfl w.heap.size 3 i0 _ 1 8 Tryd.underlying24 hi0 hz0 hz1 hz2 rfl (by decide) _ _ _ rfl (hown.alloc _) ⟨wr.heap.size, 0, none⟩ 1 1 [.int .i64 x] rfl rfl (newsC_1 _ _ _) (oneC_1 _ _) hn2 hn3 (by simp; omega) ?_; intro v' w1 hown1 hgrow _)
      have X : Ext w w1 := Ext.grown (hext.alloc _) hgrow (fun r hr => (hrow r hr).1)
      clear hown hgrow c1 hrow
      go_wp2_with fail
      have hown2 : w1.ownsRow w.heap.size 3 1 v' (k + 1) ((zs.take (k + 1)).map (Value.int .i64)) := by
        rw [T1.out, List.map_append]; exact hown1
      exact ⟨⟨k + 1, by omega, by go_num, hown2, X⟩, by simp [intOf]; omega⟩
    · obtain rfl : k = zs.length := by omega
      rw [List.take_of_length_le (Nat.le_refl _)] at hown
      have HO := Lib.hid hown
      clear hown
      go_wp2
      go_ret
      exact ⟨_, rfl, hext, HO.out⟩
theorem copyD_info : (Tryd.prog.info? 95).map (fun i => (i.zero, i.size, i.bytes)) = some (some (.int .u64 0), 1, 8) := by kernel_rfl
theorem copyW_info : (Tryd.prog.info? 2).map (fun i => (i.zero, i.size, i.bytes)) = some (some (.int .i64 0), 1, 8) := by kernel_rfl
end Go.Proofs.YtgokenbojppnhaaDoor
