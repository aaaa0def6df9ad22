/- Lists of numbers: compared. -/
import Derived.Test.YtkegefnpmijfiaaGreatQGbI
import Derived.Test.YtkegefnpmijfiaaGreatQFx
namespace Go.Proofs.YtkegefnpmijfiaaGreat
open Go.RowKit
/-- A contract that leaves the world alone, met in a region that draws. -/
theorem q0 {P : Program} {f : FuncId} {args : Array Value} {w : World} {n : Nat} {v : Value} (h : Calls P f args (w.drewN n) fun e w' => e = .returned v ∧ w.drewN n = w') :
    Calls P f args (w.drewN n) fun e w'' => e = .returned v ∧ ∃ m, w'' = w.drewN m := h.mono fun _ _ ⟨he, hm⟩ => ⟨he, n, hm.symm⟩

theorem eqNumbers_any {u v : Value} {xs ys : List Int} {w : World} (hx : Row .i64 w u xs) (hy : Row .i64 w v ys) :
    Calls Tryz.prog 39 #[u, v] w fun e w' => e = .returned (.bool (decide (xs = ys))) ∧ ∃ n, w' = w.drewN n := by
  obtain ⟨a, capx, rfl, hx1, hx2, hx3⟩ := hx
  obtain ⟨b, capy, rfl, hy1, hy2, hy3⟩ := hy
  unfold maxLen at hx2 hy2
  by_cases hl : xs.length = ys.length
  · have hb : ((xs.length : Int) != (ys.length : Int)) = false := by simp [hl]
    have HL := Lib.hid hl
    have HX := Lib.hid hx3
    have HY := Lib.hid hy3
    clear hl hx3 hy3
    go_enter Tryz.func39, Tryz.ntmps39
    go_wp2_with fail
    go_loopw [5] (fun i wr => ∃ k n : Nat, k ≤ xs.length ∧ i = .int .i64 k ∧ xs.take k = ys.take k ∧ wr = w.drewN n) (fun i _ => xs.length - (intOf i).toNat)
    case atStart => exact ⟨0, 0, Nat.zero_le _, rfl, rfl, rfl⟩
    case round =>
      obtain ⟨k, n, hk, rfl, he, rfl⟩ := hrel
      have hlen := HL.out
      have HE := Lib.hid he
      clear he
      by_cases hlt : k < xs.length
      · obtain ⟨bx, ox, rfl, cx⟩ := HX.out (fun h => by subst h; simp at hlt)
        obtain ⟨by_, oy, rfl, cy⟩ := HY.out (fun h => by subst h; simp at hlen; subst hlen; simp at hlt)
        have c1 := cx k hlt
        have c2 := cy k (by omega)
        have T1 := Lib.hid (take_succ_getD xs k hlt)
        have T2 := Lib.hid (take_succ_getD ys k (by omega))
        have hky : (k : Int) < (ys.length : Int) := by omega
        clear cx cy hlen
        by_cases hd : xs.getD k 0 = ys.getD k 0
        · have hD := Lib.hid hd
          have hbe : (xs.getD k 0 != ys.getD k 0) = false := by rw [hd]; exact bne_self_eq_false _
          clear hd
          generalize xs.getD k 0 = p at *
          generalize ys.getD k 0 = q at *
          go_wp2
          go_quiet (fail)
          go_wp2
          go_roundw
          case rel => exact ⟨k + 1, _, by omega, by go_num, by rw [T1.out, T2.out, HE.out, hD.out], rfl⟩
          case measure => simp [intOf]; omega
        · have hD := Lib.hid hd
          have hbe : (xs.getD k 0 != ys.getD k 0) = true := by rw [bne_iff_ne]; exact hd
          have NE : Hid (decide (xs = ys) = false) := Lib.hid (by simp; intro h; exact hd (by rw [h]))
          clear hd
          generalize xs.getD k 0 = p at *
          generalize ys.getD k 0 = q at *
          go_wp2
          go_quiet (fail)
          go_wp2
          go_ret
          exact ⟨by rw [NE.out]; rfl, _, by rw [World.drewN_drewN]⟩
      · have EQ : Hid (decide (xs = ys) = true) := Lib.hid (by
          have := HE.out
          rw [List.take_of_length_le (by omega), List.take_of_length_le (by omega)] at this
          simp [this])
        clear hlen
        go_wp2
        go_ret
        exact ⟨by rw [EQ.out]; rfl, _, rfl⟩
  · have hb : ((xs.length : Int) != (ys.length : Int)) = true := by simp; omega
    have NE : Hid (decide (xs = ys) = false) := Lib.hid (by simp; intro h; exact hl (by rw [h]))
    clear hl hx3 hy3
    go_enter Tryz.func39, Tryz.ntmps39
    go_wp2
    go_ret
    exact ⟨by rw [NE.out]; rfl, 0, rfl⟩
theorem eqWords_any {u v : Value} {xs ys : List Int} {w : World} (hx : Row .i64 w u xs) (hy : Row .i64 w v ys) :
    Calls Tryz.prog 96 #[u, v] w fun e w' => e = .returned (.bool (decide (xs = ys))) ∧ ∃ n, w' = w.drewN n := by
  obtain ⟨a, capx, rfl, hx1, hx2, hx3⟩ := hx
  obtain ⟨b, capy, rfl, hy1, hy2, hy3⟩ := hy
  unfold maxLen at hx2 hy2
  by_cases hl : xs.length = ys.length
  · have hb : ((xs.length : Int) != (ys.length : Int)) = false := by simp [hl]
    have HL := Lib.hid hl
    have HX := Lib.hid hx3
    have HY := Lib.hid hy3
    clear hl hx3 hy3
    go_enter Tryz.func96, Tryz.ntmps96
    go_wp2_with fail
    go_loopw [5] (fun i wr => ∃ k n : Nat, k ≤ xs.length ∧ i = .int .i64 k ∧ xs.take k = ys.take k ∧ wr = w.drewN n) (fun i _ => xs.length - (intOf i).toNat)
    case atStart => exact ⟨0, 0, Nat.zero_le _, rfl, rfl, rfl⟩
    case round =>
      obtain ⟨k, n, hk, rfl, he, rfl⟩ := hrel
      have hlen := HL.out
      have HE := Lib.hid he
      clear he
      by_cases hlt : k < xs.length
      · obtain ⟨bx, ox, rfl, cx⟩ := HX.out (fun h => by subst h; simp at hlt)
        obtain ⟨by_, oy, rfl, cy⟩ := HY.out (fun h => by subst h; simp at hlen; subst hlen; simp at hlt)
        have c1 := cx k hlt
        have c2 := cy k (by omega)
        have T1 := Lib.hid (take_succ_getD xs k hlt)
        have T2 := Lib.hid (take_succ_getD ys k (by omega))
        have hky : (k : Int) < (ys.length : Int) := by omega
        clear cx cy hlen
        by_cases hd : xs.getD k 0 = ys.getD k 0
        · have hD := Lib.hid hd
          have hbe : (xs.getD k 0 != ys.getD k 0) = false := by rw [hd]; exact bne_self_eq_false _
          clear hd
          generalize xs.getD k 0 = p at *
          generalize ys.getD k 0 = q at *
          go_wp2
          go_quiet (fail)
          go_wp2
          go_roundw
          case rel => exact ⟨k + 1, _, by omega, by go_num, by rw [T1.out, T2.out, HE.out, hD.out], rfl⟩
          case measure => simp [intOf]; omega
        · have hD := Lib.hid hd
          have hbe : (xs.getD k 0 != ys.getD k 0) = true := by rw [bne_iff_ne]; exact hd
          have NE : Hid (decide (xs = ys) = false) := Lib.hid (by simp; intro h; exact hd (by rw [h]))
          clear hd
          generalize xs.getD k 0 = p at *
          generalize ys.getD k 0 = q at *
          go_wp2
          go_quiet (fail)
          go_wp2
          go_ret
          exact ⟨by rw [NE.out]; rfl, _, by rw [World.drewN_drewN]⟩
      · have EQ : Hid (decide (xs = ys) = true) := Lib.hid (by
          have := HE.out
          rw [List.take_of_length_le (by omega), List.take_of_length_le (by omega)] at this
          simp [this])
        clear hlen
        go_wp2
        go_ret
        exact ⟨by rw [EQ.out]; rfl, _, rfl⟩
  · have hb : ((xs.length : Int) != (ys.length : Int)) = true := by simp; omega
    have NE : Hid (decide (xs = ys) = false) := Lib.hid (by simp; intro h; exact hl (by rw [h]))
    clear hl hx3 hy3
    go_enter Tryz.func96, Tryz.ntmps96
    go_wp2
    go_ret
    exact ⟨by rw [NE.out]; rfl, 0, rfl⟩
theorem eqDraws_any {u v : Value} {xs ys : List Int} {w : World} (hx : Row .u64 w u xs) (hy : Row .u64 w v ys) :
    Calls Tryz.prog 124 #[u, v] w fun e w' => e = .returned (.bool (decide (xs = ys))) ∧ ∃ n, w' = w.drewN n := by
  obtain ⟨a, capx, rfl, hx1, hx2, hx3⟩ := hx
  obtain ⟨b, capy, rfl, hy1, hy2, hy3⟩ := hy
  unfold maxLen at hx2 hy2
  by_cases hl : xs.length = ys.length
  · have hb : ((xs.length : Int) != (ys.length : Int)) = false := by simp [hl]
    have HL := Lib.hid hl
    have HX := Lib.hid hx3
    have HY := Lib.hid hy3
    clear hl hx3 hy3
    go_enter Tryz.func124, Tryz.ntmps124
    go_wp2_with fail
    go_loopw [5] (fun i wr => ∃ k n : Nat, k ≤ xs.length ∧ i = .int .i64 k ∧ xs.take k = ys.take k ∧ wr = w.drewN n) (fun i _ => xs.length - (intOf i).toNat)
    case atStart => exact ⟨0, 0, Nat.zero_le _, rfl, rfl, rfl⟩
    case round =>
      obtain ⟨k, n, hk, rfl, he, rfl⟩ := hrel
      have hlen := HL.out
      have HE := Lib.hid he
      clear he
      by_cases hlt : k < xs.length
      · obtain ⟨bx, ox, rfl, cx⟩ := HX.out (fun h => by subst h; simp at hlt)
        obtain ⟨by_, oy, rfl, cy⟩ := HY.out (fun h => by subst h; simp at hlen; subst hlen; simp at hlt)
        have c1 := cx k hlt
        have c2 := cy k (by omega)
        have T1 := Lib.hid (take_succ_getD xs k hlt)
        have T2 := Lib.hid (take_succ_getD ys k (by omega))
        have hky : (k : Int) < (ys.length : Int) := by omega
        clear cx cy hlen
        by_cases hd : xs.getD k 0 = ys.getD k 0
        · have hD := Lib.hid hd
          have hbe : (xs.getD k 0 != ys.getD k 0) = false := by rw [hd]; exact bne_self_eq_false _
          clear hd
          generalize xs.getD k 0 = p at *
          generalize ys.getD k 0 = q at *
          go_wp2
          go_quiet (fail)
          go_wp2
          go_roundw
          case rel => exact ⟨k + 1, _, by omega, by go_num, by rw [T1.out, T2.out, HE.out, hD.out], rfl⟩
          case measure => simp [intOf]; omega
        · have hD := Lib.hid hd
          have hbe : (xs.getD k 0 != ys.getD k 0) = true := by rw [bne_iff_ne]; exact hd
          have NE : Hid (decide (xs = ys) = false) := Lib.hid (by simp; intro h; exact hd (by rw [h]))
          clear hd
          generalize xs.getD k 0 = p at *
          generalize ys.getD k 0 = q at *
          go_wp2
          go_quiet (fail)
          go_wp2
          go_ret
          exact ⟨by rw [NE.out]; rfl, _, by rw [World.drewN_drewN]⟩
      · have EQ : Hid (decide (xs = ys) = true) := Lib.hid (by
          have := HE.out
          rw [List.take_of_length_le (by omega), List.take_of_length_le (by omega)] at this
          simp [this])
        clear hlen
        go_wp2
        go_ret
        exact ⟨by rw [EQ.out]; rfl, _, rfl⟩
  · have hb : ((xs.length : Int) != (ys.length : Int)) = true := by simp; omega
    have NE : Hid (decide (xs = ys) = false) := Lib.hid (by simp; intro h; exact hl (by rw [h]))
    clear hl hx3 hy3
    go_enter Tryz.func124, Tryz.ntmps124
    go_wp2
    go_ret
    exact ⟨by rw [NE.out]; rfl, 0, rfl⟩
end Go.Proofs.YtkegefnpmijfiaaGreat
