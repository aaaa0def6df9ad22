/- seed.turns: what its iterator promises. -/
import Derived.Test.YtmbgaonnknaclaaDrawn
namespace Go.Proofs.Ytmbgaonnknaclaa
open Go.RowKit Go.Shelf
attribute [local go_sem] Oper.semAt_some
/-- The generator behind k turns of n places. -/
noncomputable def Gen.turn (n : Nat) (g : Gen) : Nat → Gen
  | 0 => g
  | k + 1 => (g.turn n k).past ((n : Int) - k)
theorem Gen.turn_fine {n : Nat} {g : Gen} (h : g.Fine) (k : Nat) : (g.turn n k).Fine := by
  induction k with
  | zero => exact h
  | succ k ih => exact Gen.past_fine ih _
/-- What came of turns: which two places change, each with the generator behind it. -/
def TurnsPre (w0 : World) (n : Nat) (g : Gen) (pre : List (Int × Int × Value)) : Prop :=
  pre.length + 1 ≤ n ∧ ∀ (i : Nat) (x : Int × Int × Value), pre[i]? = some x → x.1 = (n : Int) - 1 - i ∧ x.2.1 = (g.turn n i).below ((n : Int) - i) ∧ RandAt w0 x.2.2 (g.turn n (i + 1))
theorem TurnsPre.snoc {w0 : World} {n : Nat} {g : Gen} {pre : List (Int × Int × Value)} (h : TurnsPre w0 n g pre) {x : Int × Int × Value} (h0 : pre.length + 2 ≤ n) (h1 : x.1 = (n : Int) - 1 - pre.length)
    (h2 : x.2.1 = (g.turn n pre.length).below ((n : Int) - pre.length)) (h3 : RandAt w0 x.2.2 (g.turn n (pre.length + 1))) : TurnsPre w0 n g (pre ++ [x]) := by
  refine ⟨by simp; omega, fun i y hy => ?_⟩
  rcases Nat.lt_or_ge i pre.length with hi | hi
  · rw [List.getElem?_append_left hi] at hy; exact h.2 i y hy
  · rw [List.getElem?_append_right hi] at hy
    rcases Nat.eq_zero_or_pos (i - pre.length) with h0 | h0
    · rw [h0] at hy
      simp at hy
      subst hy
      obtain rfl : i = pre.length := by omega
      exact ⟨h1, h2, h3⟩
    · rw [List.getElem?_eq_none (by simp; omega)] at hy; cases hy
/-- The iterator's own blocks, and all that was there ahead, lie as they lay. -/
def KeptT (w0 : World) (B C : Nat) (W W' : World) : Prop := KeptD w0 B W W' ∧ W'.heap[C]? = W.heap[C]?
theorem turns_any (a : Option Addr) (m c : Nat) (p q r s n : Int) (w : World) :
    Calls Try.prog 53 #[.agg #[.slice a m c, .int .u64 p, .int .u64 q, .int .u64 r, .int .u64 s], .int .i64 n] w fun e w' => e = .returned (.func (.func 96) #[] #[.pointer (some ⟨w.heap.size + 1, 0, none⟩), .pointer (some ⟨w.heap.size, 0, none⟩)]) ∧ w' = (w.alloc (.cells #[.slice a m c, .int .u64 p, .int .u64 q, .int .u64 r, .int .u64 s] 27)).alloc (.cells #[.int .i64 n] 3) := by
  go_enter Try.func53, Try.ntmps53
  go_wp2
  go_ret
  exact ⟨rfl, rfl⟩
set_option maxHeartbeats 1000000 in
set_option maxRecDepth 100000 in
theorem turns_iter (k : Nat) (hk : 1 ≤ k) (B C N n : Nat) (g0 : Gen) (w0 w : World) (a : Option Addr) (m c : Nat) (p q r s : Int) (n1 : 1 ≤ n) (n2 : n ≤ 1000000) (hF : g0.Fine) (hFew : ∀ j : Int, 1 ≤ j → j ≤ n → Few j) (h0 : RandAt w0 (.agg #[.slice a m c, .int .u64 p, .int .u64 q, .int .u64 r, .int .u64 s]) g0) (ho : OldAs w0 w) (hB : w0.heap.size ≤ B) (hBC : B < C) (hCw : C < w.heap.size)
    (hS : StepAt w B (.slice a m c) p q r s) (hC : w.cell? ⟨C, 0, none⟩ = some (.int .i64 n)) :
    Iter Fence.wide k Try.prog 96 #[.pointer (some ⟨C, 0, none⟩), .pointer (some ⟨B, 0, none⟩)] (fun x : Int × Int × Value => #[.agg #[.int .i64 x.1, .int .i64 x.2.1], x.2.2]) (KeptT w0 B C) (TurnsPre w0 n g0) (fun xs => xs.length + 1 = n ∧ TurnsPre w0 n g0 xs) N B w := by
  intro l J Jx W hK hJ hJx hY hN hj0
  have hoW : OldAs w0 W := fun k hk => (hK.1.2.2 k hk).trans (ho k hk)
  have hCW : C < W.heap.size := Nat.lt_of_lt_of_le hCw hK.1.1
  have hCc : W.cell? ⟨C, 0, none⟩ = some (.int .i64 n) := by rw [World.cell?_of_block hK.2]; exact hC
  have hSW : StepAt W B (.slice a m c) p q r s := by
    obtain ⟨c0, c1, c2, c3, c4, f0, f1, f2, f3, f4⟩ := hS
    have e : ∀ o, W.cell? ⟨B, o, none⟩ = w.cell? ⟨B, o, none⟩ := fun o => World.cell?_of_block hK.1.2.1
    have e' : ∀ o, W.frozen? ⟨B, o, none⟩ = w.frozen? ⟨B, o, none⟩ := fun o => World.frozen?_of_block hK.1.2.1
    exact ⟨by rw [e]; exact c0, by rw [e]; exact c1, by rw [e]; exact c2, by rw [e]; exact c3, by rw [e]; exact c4, by rw [e']; exact f0, by rw [e']; exact f1, by rw [e']; exact f2, by rw [e']; exact f3, by rw [e']; exact f4⟩
  clear hK ho hCw hS hC hN
  have HFEW := Lib.hid hFew
  have HF := Lib.hid hF
  clear hFew hF
  refine callsIn_of_wp Try.func96 rfl trivial ?_ rfl
  simp only [Try.ntmps96, List.size_toArray, List.length_cons, List.length_nil, Nat.reduceAdd, Nat.reduceSub, Array.replicate_succ, Array.replicate_zero, List.push_toArray, List.append_toArray, List.nil_append, List.cons_append]
  gi_wp2
  gi_loopw [4] (fun i wr => ∃ (pre : List (Int × Int × Value)) (a : Option Addr) (m c : Nat) (p q r s : Int), i = .int .i64 ((n : Int) - 1 - pre.length) ∧ wr.cell? ⟨C, 0, none⟩ = some (.int .i64 n) ∧ StepAt wr B (.slice a m c) p q r s ∧ RandAt w0 (.agg #[.slice a m c, .int .u64 p, .int .u64 q, .int .u64 r, .int .u64 s]) (g0.turn n pre.length) ∧ J pre wr ∧ TurnsPre w0 n g0 pre ∧ OldAs w0 wr ∧ C < wr.heap.size) (fun i _ => (intOf i).toNat)
  case atStart => exact ⟨[], a, m, c, p, q, r, s, by simp, hCc, hSW, h0, hj0, ⟨by simp; omega, fun i x h => by simp at h⟩, hoW, hCW⟩
  case round =>
    clear hSW h0 hj0 hoW hCW hCc
    obtain ⟨pre, a, m, c, p, q, r, s, rfl, hc, ⟨c0, c1, c2, c3, c4, f0, f1, f2, f3, f4⟩, hr, hj, hd, ho, hBr⟩ := hrel
    obtain ⟨i, hi⟩ : ∃ i : Int, (n : Int) - 1 - pre.length = i := ⟨_, rfl⟩
    have hlen := hd.1
    have i0 : 0 ≤ i := by omega
    have i1 : i < 1000000 := by omega
    rw [hi]
    have HI := Lib.hid hi
    have HD := Lib.hid hd
    have HJ0 := Lib.hid hj
    have HO := Lib.hid ho
    have HJ := Lib.hid hJ
    have HY := Lib.hid hY
    have HBx := Lib.hid hJx
    have HR := Lib.hid hr
    clear hd hj ho hJ hY hJx hr hi
    by_cases hlt : 1 ≤ i
    · have FW : Hid (Few (i + 1)) := Lib.hid (HFEW.out _ (by omega) (by have := HI.out; omega))
      have ST := Lib.hid (draw_few (n := i + 1) HR.out HO.out (Gen.turn_fine HF.out _) FW.out)
      have BD := (g0.turn n pre.length).below_bd (n := i + 1) (by omega)
      obtain ⟨X, hX⟩ : ∃ X, (g0.turn n pre.length).below (i + 1) = X := ⟨_, rfl⟩
      rw [hX] at BD
      obtain ⟨X0, X1⟩ := BD
      have HX := Lib.hid hX
      clear hX
      have hBz : B < wr.heap.size := by omega
      gi_wp2_with fail
      refine ⟨trivial, ?_⟩
      refine (callsIn_wide.2 ST.out).mono ?_
      rintro e v1 ⟨v', he, x1, hr'⟩
      rw [HX.out] at he
      subst he
      obtain ⟨a', n', c', p', q', r', s', rfl, hn'⟩ := hr'.form
      obtain ⟨k1, t1⟩ := x1.rules
      have z1 := x1.size
      have hb1 : B < v1.heap.size := by omega
      have e0 := (k1 B 0 hBz).trans c0
      have e1 := (k1 B 1 hBz).trans c1
      have e2 := (k1 B 2 hBz).trans c2
      have e3 := (k1 B 3 hBz).trans c3
      have e4 := (k1 B 4 hBz).trans c4
      have d0 := (t1 B 0 hBz).trans f0
      have d1 := (t1 B 1 hBz).trans f1
      have d2 := (t1 B 2 hBz).trans f2
      have d3 := (t1 B 3 hBz).trans f3
      have d4 := (t1 B 4 hBz).trans f4
      have dc := (k1 C 0 hBr).trans hc
      have HR' := Lib.hid hr'
      clear k1 t1 hr' hn' c0 c1 c2 c3 c4 f0 f1 f2 f3 f4 hc ST
      have hpre : TurnsPre w0 n g0 (pre ++ [(i, X, .agg #[.slice a' n' c', .int .u64 p', .int .u64 q', .int .u64 r', .int .u64 s'])]) := HD.out.snoc (by have := HI.out; omega) HI.out.symm (by rw [← HX.out, show (n : Int) - pre.length = i + 1 by have := HI.out; omega]) (by
        have := HR'.out
        simp only [Gen.turn]
        rw [show (n : Int) - pre.length = i + 1 by have := HI.out; omega]
        exact this)
      have hj2 := HJ.out pre _ _ (HJ.out pre _ _ (HJ.out pre _ _ (HJ.out pre _ _ (HJ.out pre _ _ (HJ.out pre _ _ HJ0.out (x1.grow _)) (grow_at v1 B 0 (.slice a' n' c'))) (grow_at _ B 1 (.int .u64 p'))) (grow_at _ B 2 (.int .u64 q'))) (grow_at _ B 3 (.int .u64 r'))) (grow_at _ B 4 (.int .u64 s'))
      obtain ⟨fn, tmps, assign, body, hy, hR⟩ := HY.out _ _ _ hpre hj2
      have HP := Lib.hid hpre
      clear hj2 hpre
      gi_wp2
      refine hR.mono ?_
      rintro e W3 (⟨rfl, hJ3, hk3, hkC⟩ | ⟨rfl, hJx3⟩)
      · have c0 := World.cell?_of_block (a := ⟨B, 0, none⟩) hk3.2.1
        have c1 := World.cell?_of_block (a := ⟨B, 1, none⟩) hk3.2.1
        have c2 := World.cell?_of_block (a := ⟨B, 2, none⟩) hk3.2.1
        have c3 := World.cell?_of_block (a := ⟨B, 3, none⟩) hk3.2.1
        have c4 := World.cell?_of_block (a := ⟨B, 4, none⟩) hk3.2.1
        have f0 := World.frozen?_of_block (a := ⟨B, 0, none⟩) hk3.2.1
        have f1 := World.frozen?_of_block (a := ⟨B, 1, none⟩) hk3.2.1
        have f2 := World.frozen?_of_block (a := ⟨B, 2, none⟩) hk3.2.1
        have f3 := World.frozen?_of_block (a := ⟨B, 3, none⟩) hk3.2.1
        have f4 := World.frozen?_of_block (a := ⟨B, 4, none⟩) hk3.2.1
        have hc := World.cell?_of_block (a := ⟨C, 0, none⟩) hkC
        have hCB : C ≠ B := by omega
        simp [go_sem, *] at c0 c1 c2 c3 c4 f0 f1 f2 f3 f4 hc
        have hsz := hk3.1
        simp at hsz
        have hold : OldAs w0 W3 := fun k hk => by
          rw [hk3.2.2 k hk]
          have hne : k ≠ B := by omega
          rw [Below.heap_setCell _ _ _ k hne, Below.heap_setCell _ _ _ k hne, Below.heap_setCell _ _ _ k hne, Below.heap_setCell _ _ _ k hne, Below.heap_setCell _ _ _ k hne]
          have hkw : k < wr.heap.size := by omega
          exact (x1.block k hkw).trans (HO.out k hk)
        have HNEW : Hid (∃ (pre : List (Int × Int × Value)) (a : Option Addr) (m c : Nat) (p q r s : Int), (Value.int .i64 (i - 1)) = .int .i64 ((n : Int) - 1 - pre.length) ∧ W3.cell? ⟨C, 0, none⟩ = some (.int .i64 n) ∧ StepAt W3 B (.slice a m c) p q r s ∧ RandAt w0 (.agg #[.slice a m c, .int .u64 p, .int .u64 q, .int .u64 r, .int .u64 s]) (g0.turn n pre.length) ∧ J pre W3 ∧ TurnsPre w0 n g0 pre ∧ OldAs w0 W3 ∧ C < W3.heap.size) := Lib.hid
          ⟨_, a', n', c', p', q', r', s', by rw [← HI.out]; simp; omega, hc, ⟨c0, c1, c2, c3, c4, f0, f1, f2, f3, f4⟩, by
            rw [List.length_append, List.length_singleton]; simp only [Gen.turn]
            rw [show (n : Int) - pre.length = i + 1 by have := HI.out; omega]
            exact HR'.out, hJ3, HP.out, hold, by omega⟩
        clear hR hy hk3 hkC hJ3 hold e0 e1 e2 e3 e4 d0 d1 d2 d3 d4 c0 c1 c2 c3 c4 f0 f1 f2 f3 f4 hc dc
        gi_wp2
        go_roundw
        case rel => exact HNEW.out
        case measure => simp [intOf]; omega
      · gi_wp2
        refine bodyPost_ret (results_none rfl _ _ _) rfl ?_
        exact ⟨⟨_, rfl⟩, .inr ⟨_, HP.out, hJx3⟩⟩
    · gi_wp2
      refine bodyPost_end (results_none rfl _ _ _) rfl ?_
      exact ⟨⟨_, rfl⟩, .inl ⟨pre, ⟨by have := HI.out; omega, HD.out⟩, HJ0.out⟩⟩
end Go.Proofs.Ytmbgaonnknaclaa
