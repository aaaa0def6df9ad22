/- Lists of bytes compared, copied; answers written over. -/
import Derived.Test.YtkdfenkpfffcaaaLists
import Derived.Test.YtkdfenkpfffcaaaRefDef5
import Derived.Test.YtkdfenkpfffcaaaSpoil
import Derived.Maps.AppendAt
namespace Go.Proofs.Ytkdfenkpfffcaaa
open Go.RowKit
theorem eqBytesI_any {u v : Value} {xs ys : List Int} {w : World} (hx : Row .u8 w u xs) (hy : Row .u8 w v ys) :
    Calls Try.prog 12 #[u, v] w fun e w' => e = .returned (.bool (decide (xs = ys))) ∧ ∃ n, w' = w.drewN n := by
  obtain ⟨a, capx, rfl, hx1, hx2, hx3⟩ := hx
  obtain ⟨b, capy, rfl, hy1, hy2, hy3⟩ := hy
  unfold maxLen at hx2 hy2
  by_cases hl : xs.length = ys.length
  · have hb : ((xs.length : Int) != (ys.length : Int)) = false := by simp [hl]
    have HL := Lib.hid hl
    have HX := Lib.hid hx3
    have HY := Lib.hid hy3
    clear hl hx3 hy3
    go_enter Try.func12, Try.ntmps12
    go_wp2_with fail
    go_loopw [5] (fun i wr => ∃ k n : Nat, k ≤ xs.length ∧ i = .int .i64 k ∧ xs.take k = ys.take k ∧ wr = w.drewN n) (fun i _ => xs.length - (intOf i).toNat)
    case atStart => exact ⟨0, 0, Nat.zero_le _, rfl, rfl, rfl⟩
    case round =>
      obtain ⟨k, n, hk, rfl, he, rfl⟩ := hrel
      have hlen := HL.out
      have HE := Lib.hid he
      clear he
      by_cases hlt : k < xs.length
      · obtain ⟨bx, ox, rfl, cx⟩ := HX.out (fun h => by subst h; simp at hlt)
        obtain ⟨by_, oy, rfl, cy⟩ := HY.out (fun h => by subst h; simp at hlen; subst hlen; simp at hlt)
        have c1 := cx k hlt
        have c2 := cy k (by omega)
        have T1 := Lib.hid (take_succ_getD xs k hlt)
        have T2 := Lib.hid (take_succ_getD ys k (by omega))
        have hky : (k : Int) < (ys.length : Int) := by omega
        clear cx cy hlen
        by_cases hd : xs.getD k 0 = ys.getD k 0
        · have hD := Lib.hid hd
          have hbe : (xs.getD k 0 != ys.getD k 0) = false := by rw [hd]; exact bne_self_eq_false _
          clear hd
          generalize xs.getD k 0 = p at *
          generalize ys.getD k 0 = q at *
          go_wp2
          go_quiet (fail)
          go_wp2
          go_roundw
          case rel => exact ⟨k + 1, _, by omega, by go_num, by rw [T1.out, T2.out, HE.out, hD.out], rfl⟩
          case measure => simp [intOf]; omega
        · have hD := Lib.hid hd
          have hbe : (xs.getD k 0 != ys.getD k 0) = true := by rw [bne_iff_ne]; exact hd
          have NE : Hid (decide (xs = ys) = false) := Lib.hid (by simp; intro h; exact hd (by rw [h]))
          clear hd
          generalize xs.getD k 0 = p at *
          generalize ys.getD k 0 = q at *
          go_wp2
          go_quiet (fail)
          go_wp2
          go_ret
          exact ⟨by rw [NE.out]; rfl, _, by rw [World.drewN_drewN]⟩
      · have EQ : Hid (decide (xs = ys) = true) := Lib.hid (by
          have := HE.out
          rw [List.take_of_length_le (by omega), List.take_of_length_le (by omega)] at this
          simp [this])
        clear hlen
        go_wp2
        go_ret
        exact ⟨by rw [EQ.out]; rfl, _, rfl⟩
  · have hb : ((xs.length : Int) != (ys.length : Int)) = true := by simp; omega
    have NE : Hid (decide (xs = ys) = false) := Lib.hid (by simp; intro h; exact hl (by rw [h]))
    clear hl hx3 hy3
    go_enter Try.func12, Try.ntmps12
    go_wp2
    go_ret
    exact ⟨by rw [NE.out]; rfl, 0, rfl⟩
/-- Bytes as numbers. -/
def bz (b : Bs) : List Int := b.map (fun x => (x.toNat : Int))
theorem RowV.u8 {w : World} {v : Value} {b : Bs} (h : RowV w v (bytesV b)) : Row .u8 w v (bz b) := by
  obtain ⟨a, cap, rfl, h1, h2, h3⟩ := h
  have e : (bytesV b).length = (bz b).length := by simp [bytesV, bz]
  refine ⟨a, cap, by rw [e], by omega, h2, fun hn => ?_⟩
  obtain ⟨g, o, rfl, hc⟩ := h3 (by intro h; apply hn; rw [h] at e; exact List.eq_nil_of_length_eq_zero e.symm)
  refine ⟨g, o, rfl, fun i hi => ?_⟩
  rw [hc i (by omega)]
  have hi2 : i < b.length := by simpa [bz] using hi
  simp [bytesV, bz, List.getD_eq_getElem?_getD, List.getElem?_eq_getElem hi2]
theorem eqBytes_same {u v : Value} {b : Bs} {w : World} (hx : RowV w u (bytesV b)) (hy : RowV w v (bytesV b)) :
    Calls Try.prog 12 #[u, v] w fun e w' => e = .returned (.bool true) ∧ ∃ n, w' = w.drewN n :=
  (eqBytesI_any hx.u8 hy.u8).mono (by rintro e w' ⟨rfl, h⟩; exact ⟨by simp, h⟩)
theorem u8_info : (Try.prog.info? 5).map (fun i => (i.zero, i.size, i.bytes)) = some (some (.int .u8 0), 1, 1) := by kernel_rfl
set_option maxHeartbeats 2000000 in
theorem copyBytes_any {v : Value} {b : Bs} {w : World} (h : RowV w v (bytesV b)) (hb : b.length ≤ 100000) :
    Calls Try.prog 7 #[v] w fun e w' => ∃ u, e = .returned u ∧ Ext w w' ∧ w'.ownsRow w.heap.size 5 1 u b.length (bytesV b) := by
  obtain ⟨i0, hi0, hz0, hz1, hz2⟩ := info_parts u8_info
  obtain ⟨a, cap, rfl, hcap, hmax, h3⟩ := h
  have hl := bytesV_len b
  rw [hl] at hcap ⊢
  have HC := Lib.hid h3
  clear h3 hl
  go_enter Try.func7, Try.ntmps7
  go_wp2_with fail
  go_loopw [3, 4] (fun l i wr => ∃ k : Nat, k ≤ b.length ∧ i = .int .i64 k ∧ wr.ownsRow w.heap.size 5 1 l k (bytesV (b.take k)) ∧ Ext w wr) (fun _ i _ => b.length - (intOf i).toNat)
  case atStart => exact ⟨0, Nat.zero_le _, rfl, World.ownsRow_nil _ _ _ _, Ext.refl _⟩
  case round =>
    obtain ⟨k, hk, rfl, hown, hext⟩ := hrel
    rcases Nat.lt_or_ge k b.length with hlt | hge
    · have hlz : (k : Int) < (b.length : Int) := by omega
      obtain ⟨g, o, rfl, hc⟩ := HC.out (by intro e; have := congrArg List.length e; simp [bytesV] at this; subst this; simp at hlt)
      have kc := hext.cell ((hc k (by rw [bytesV_len]; exact hlt)).trans (show (bytesV b)[k]? = some (.int .u8 (b[k].toNat : Int)) by simp [bytesV, hlt]))
      have zc := cell_lt kc
      simp only at zc
      have SN := Lib.hid (show bytesV (b.take (k + 1)) = bytesV (b.take k) ++ [.int .u8 (b[k].toNat : Int)] by rw [take_snoc hlt]; unfold bytesV; rw [List.map_append]; rfl)
      clear hc
      generalize b[k] = y at *
      have hrow := hown.lt
      have hn2 : k + 1 ≤ maxLen := by unfold maxLen; omega
      have hn3 : (k + 1) * 1 ≤ 140737488355328 := by omega
      have hbase := hext.size
      go_wp2_with (at_builtin; refine wpList_append_own _ rfl _ _ 23 rfl w.heap.size 5 i0 _ 1 1 Try.underlying23 hi0 hz0 hz1 hz2 rfl (by decide) _ _ _ rfl (hown.alloc _) ⟨wr.heap.size, 0, none⟩ 1 1 [.int .u8 (y.toNat : Int)] rfl rfl (newsC_1 _ _ _) (by simp [Value.oneCell']) hn2 hn3 (by simp; omega) ?_; intro v' w1 hown1 hgrow _)
      have X1 : Ext w w1 := Ext.grown (hext.alloc _) hgrow (fun r hr => (hrow r hr).1)
      have O2 := Lib.hid hown1
      clear hown hgrow hrow hown1 kc
      go_wp2_with fail
      exact ⟨⟨k + 1, by omega, by go_num, by rw [SN.out]; exact O2.out, X1⟩, by simp [intOf]; omega⟩
    · have hlz : ¬ (k : Int) < (b.length : Int) := by omega
      obtain rfl : k = b.length := by omega
      rw [List.take_length] at hown
      have HO := Lib.hid hown
      clear hown HC
      go_wp2
      go_ret
      exact ⟨_, rfl, hext, HO.out⟩
set_option maxHeartbeats 2000000 in
/-- ratchetlaw0.Numbers: an own row is written over; nothing else. -/
theorem numbers0_any {v : Value} {n : Nat} {xs : List Value} {w : World} {base : Nat} (h : w.ownsRow base 3 1 v n xs) (hn : n ≤ 100000) (hb : base ≤ w.heap.size) :
    Calls Try.prog 13 #[v] w fun e w' => e = .returned (.tuple #[]) ∧ w.grownBy w' v.ownBlock := by
  obtain ⟨i0, hi0, hz0, hz1, hz2⟩ := info_parts int_info
  obtain ⟨a, c, rfl⟩ := own_form0 h
  have HO := Lib.hid h
  clear h
  go_enter Try.func13, Try.ntmps13
  go_wp2_with fail
  go_loopw [2] (fun i wr => ∃ (k : Nat) (ys : List Value), k ≤ n ∧ i = .int .i64 k ∧ wr.ownsRow base 3 1 (.slice a n c) n ys ∧ w.grownBy wr (Value.slice a n c).ownBlock) (fun i _ => n - (intOf i).toNat)
  case atStart => exact ⟨0, xs, Nat.zero_le _, rfl, HO.out, World.grownBy.refl _ _⟩
  case round =>
    obtain ⟨k, ys, hk, rfl, hown, hbel⟩ := hrel
    have HB := Lib.hid hbel
    have zb := hbel.size
    clear hbel
    rcases Nat.lt_or_ge k n with hlt | hge
    · have hlz : (k : Int) < (n : Int) := by omega
      obtain ⟨g, cap, e, hg, -⟩ := own_form1 hown (by omega)
      cases e
      have hl : ys.length = n := by simpa using hown.1
      have kc : wr.cell? ⟨g, k, none⟩ = some (ys[k]'(by omega)) := by rw [hown.cellAt k (by omega)]; exact List.getElem?_eq_getElem (by omega)
      have kf := hown.frozenAt k
      have zg := cell_lt kc
      simp only at zg
      have O2 := Lib.hid (hown.stored k (.int .i64 (-99)))
      generalize ys[k] = y at *
      clear hown
      go_wp2_with fail
      exact ⟨⟨k + 1, _, by omega, by go_num, O2.out.1, HB.out.trans O2.out.2⟩, by simp [intOf]; omega⟩
    · have hlz : ¬ (k : Int) < (n : Int) := by omega
      have hrow := hown.lt
      have hn2 : n + 1 ≤ maxLen := by unfold maxLen; omega
      have hn3 : (n + 1) * 8 ≤ 140737488355328 := by omega
      go_wp2_with (at_builtin; refine wpList_append_own _ rfl _ _ 25 rfl base 3 i0 _ 1 8 Try.underlying25 hi0 hz0 hz1 hz2 rfl (by decide) _ _ _ rfl (hown.alloc _) ⟨wr.heap.size, 0, none⟩ 1 1 [.int .i64 5] rfl rfl (newsC_1 _ _ _) (by simp [Value.oneCell']) hn2 hn3 (by simp; omega) ?_; intro v' w1 hown1 hgrow _)
      have X1 : w.grownBy w1 (Value.slice a n c).ownBlock := (HB.out.trans (World.grownBy_alloc wr _ _)).trans hgrow
      clear hown hgrow hrow hown1
      go_wp2_with fail
      (try rw [Exit.noGoto_ret])
      simp [bodyPost, results, Try.results13, go_sem]
      exact X1
end Go.Proofs.Ytkdfenkpfffcaaa
