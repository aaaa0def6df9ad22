/- rng.draws: what its iterator promises. -/
import Derived.Test.YtmbgaonnknaclaaIter
import Derived.Test.YtmbgaonnknaclaaRand
import Derived.Deep.LoopGhost
namespace Go.Proofs.Ytmbgaonnknaclaa
open Go.RowKit Go.Shelf
attribute [local go_sem] Oper.semAt_some
/-- The generator behind k draws; the k-th draw. -/
def Gen.after (g : Gen) : Nat → Gen
  | 0 => g
  | k + 1 => (g.after k).step.2
def Gen.val (g : Gen) (k : Nat) : Int := (g.after k).step.1
/-- What came of draws: number by number, each with the generator behind it. -/
def DrawsPre (w0 : World) (g : Gen) (pre : List (Int × Value)) : Prop := ∀ i x, pre[i]? = some x → x.1 = g.val i ∧ RandAt w0 x.2 (g.after (i + 1))
theorem DrawsPre.snoc {w0 : World} {g : Gen} {pre : List (Int × Value)} (h : DrawsPre w0 g pre) {x : Int × Value} (h1 : x.1 = g.val pre.length) (h2 : RandAt w0 x.2 (g.after (pre.length + 1))) : DrawsPre w0 g (pre ++ [x]) := fun i y hy => by
  rcases Nat.lt_or_ge i pre.length with hi | hi
  · rw [List.getElem?_append_left hi] at hy; exact h i y hy
  · rw [List.getElem?_append_right hi] at hy
    rcases Nat.eq_zero_or_pos (i - pre.length) with h0 | h0
    · rw [h0] at hy
      simp at hy
      subst hy
      obtain rfl : i = pre.length := by omega
      exact ⟨h1, h2⟩
    · rw [List.getElem?_eq_none (by simp; omega)] at hy; cases hy
/-- The iterator's own block, and all that was there ahead, lie as they lay. -/
def KeptD (w0 : World) (B : Nat) (W W' : World) : Prop := W.heap.size ≤ W'.heap.size ∧ W'.heap[B]? = W.heap[B]? ∧ ∀ k, k < w0.heap.size → W'.heap[k]? = W.heap[k]?
theorem Ext.grow {W W' : World} (h : Ext W W') (r : Option Nat) : W.grownBy W' r := ⟨h.os, h.tape, h.output, h.size, fun k hk _ => h.block k hk⟩
theorem grow_at (W : World) (B o : Nat) (v : Value) : W.grownBy (W.setCell ⟨B, o, none⟩ v) (some B) :=
  ⟨rfl, rfl, rfl, (KeepsWalks.setCell W _ v).size, fun k _ hk => Below.heap_setCell _ _ _ k (fun e => hk (by rw [e]))⟩
set_option maxHeartbeats 400000 in
set_option maxRecDepth 100000 in
theorem draws_iter (n : Nat) (hn : 1 ≤ n) (B N : Nat) (g0 : Gen) (w0 w : World) (a : Option Addr) (m c : Nat) (p q r s : Int) (h0 : RandAt w0 (.agg #[.slice a m c, .int .u64 p, .int .u64 q, .int .u64 r, .int .u64 s]) g0) (ho : OldAs w0 w) (hB : w0.heap.size ≤ B) (hBw : B < w.heap.size)
    (hS : StepAt w B (.slice a m c) p q r s) :
    Iter Fence.wide n Try.prog 137 #[.pointer (some ⟨B, 0, none⟩)] (fun x : Int × Value => #[.int .u64 x.1, x.2]) (KeptD w0 B) (DrawsPre w0 g0) (fun _ => False) N B w := by
  intro l J Jx W hK hJ hJx hY hN hj0
  have hoW : OldAs w0 W := fun k hk => (hK.2.2 k hk).trans (ho k hk)
  have hBW : B < W.heap.size := Nat.lt_of_lt_of_le hBw hK.1
  have hSW : StepAt W B (.slice a m c) p q r s := by
    obtain ⟨c0, c1, c2, c3, c4, f0, f1, f2, f3, f4⟩ := hS
    have e : ∀ o, W.cell? ⟨B, o, none⟩ = w.cell? ⟨B, o, none⟩ := fun o => World.cell?_of_block hK.2.1
    have e' : ∀ o, W.frozen? ⟨B, o, none⟩ = w.frozen? ⟨B, o, none⟩ := fun o => World.frozen?_of_block hK.2.1
    exact ⟨by rw [e]; exact c0, by rw [e]; exact c1, by rw [e]; exact c2, by rw [e]; exact c3, by rw [e]; exact c4, by rw [e']; exact f0, by rw [e']; exact f1, by rw [e']; exact f2, by rw [e']; exact f3, by rw [e']; exact f4⟩
  clear hK ho hBw hS
  refine callsIn_of_wp Try.func137 rfl trivial ?_ rfl
  simp only [Try.ntmps137, List.size_toArray, List.length_cons, List.length_nil, Nat.reduceAdd, Nat.reduceSub, Array.replicate_succ, Array.replicate_zero, List.push_toArray, List.append_toArray, List.nil_append, List.cons_append]
  gi_wp2
  obtain ⟨DR, hDR⟩ : ∃ DR : Nat → World → Prop, DR = fun g wr => ∃ (pre : List (Int × Value)) (a : Option Addr) (m c : Nat) (p q r s : Int), StepAt wr B (.slice a m c) p q r s ∧ RandAt w0 (.agg #[.slice a m c, .int .u64 p, .int .u64 q, .int .u64 r, .int .u64 s]) (g0.after pre.length) ∧ J pre wr ∧ DrawsPre w0 g0 pre ∧ OldAs w0 wr ∧ B < wr.heap.size ∧ pre.length + g = N + 1 := ⟨_, rfl⟩
  gi_loopw [3] (fun _ wr => ∃ g, DR g wr) (fun _ wr => leastOf (fun g => DR g wr))
  case atStart => exact ⟨N + 1, by rw [hDR]; exact ⟨[], a, m, c, p, q, r, s, hSW, h0, hj0, fun i x h => by simp at h, hoW, hBW, by simp⟩⟩
  case round =>
    have hl := leastOf_spec hrel
    generalize hg0 : leastOf _ = g at *
    obtain ⟨hg, -⟩ := hl
    clear hrel hSW h0 hj0 hoW hBW
    rw [hDR] at hg
    obtain ⟨pre, a, m, c, p, q, r, s, ⟨c0, c1, c2, c3, c4, f0, f1, f2, f3, f4⟩, hr, hj, hd, ho, hBr, hlen⟩ := hg
    have g1 : 1 ≤ g := by
      have := hN pre wr hd hj
      omega
    have st := step_any hr ho
    obtain ⟨X, hX⟩ : ∃ X, (g0.after pre.length).step.1 = X := ⟨_, rfl⟩
    rw [hX] at st
    have HX := Lib.hid hX
    have ST := Lib.hid st
    clear st hX
    have HJ := Lib.hid hJ
    have HD := Lib.hid hd
    have HO := Lib.hid ho
    have HR := Lib.hid hr
    have HJ0 := Lib.hid hj
    have HY := Lib.hid hY
    have HN := Lib.hid hN
    have HBx := Lib.hid hJx
    have HDR := Lib.hid hDR
    clear hr hj hd ho hJ hY hN hJx hDR
    gi_wp2_with fail
    refine ⟨trivial, ?_⟩
    refine (callsIn_wide.2 ST.out).mono ?_
    rintro e v1 ⟨v', rfl, x1, hr'⟩
    obtain ⟨a', n', c', p', q', r', s', rfl, hn'⟩ := hr'.form
    obtain ⟨k1, t1⟩ := x1.rules
    have z1 := x1.size
    have hb1 : B < v1.heap.size := by omega
    have e0 := (k1 B 0 hBr).trans c0
    have e1 := (k1 B 1 hBr).trans c1
    have e2 := (k1 B 2 hBr).trans c2
    have e3 := (k1 B 3 hBr).trans c3
    have e4 := (k1 B 4 hBr).trans c4
    have d0 := (t1 B 0 hBr).trans f0
    have d1 := (t1 B 1 hBr).trans f1
    have d2 := (t1 B 2 hBr).trans f2
    have d3 := (t1 B 3 hBr).trans f3
    have d4 := (t1 B 4 hBr).trans f4
    have HR' := Lib.hid hr'
    have HLEN := Lib.hid hlen
    clear k1 t1 hr' hn' c0 c1 c2 c3 c4 f0 f1 f2 f3 f4 hlen hg0 ST
    have hpre : DrawsPre w0 g0 (pre ++ [(X, .agg #[.slice a' n' c', .int .u64 p', .int .u64 q', .int .u64 r', .int .u64 s'])]) := HD.out.snoc HX.out.symm HR'.out
    have hj2 := HJ.out pre _ _ (HJ.out pre _ _ (HJ.out pre _ _ (HJ.out pre _ _ (HJ.out pre _ _ (HJ.out pre _ _ HJ0.out (x1.grow _)) (grow_at v1 B 0 (.slice a' n' c'))) (grow_at _ B 1 (.int .u64 p'))) (grow_at _ B 2 (.int .u64 q'))) (grow_at _ B 3 (.int .u64 r'))) (grow_at _ B 4 (.int .u64 s'))
    obtain ⟨fn, tmps, assign, body, hy, hR⟩ := HY.out _ _ _ hpre hj2
    have HP := Lib.hid hpre
    clear hj2 hpre
    gi_wp2
    refine hR.mono ?_
    rintro e W3 (⟨rfl, hJ3, hk3⟩ | ⟨rfl, hJx3⟩)
    · have c0 := World.cell?_of_block (a := ⟨B, 0, none⟩) hk3.2.1
      have c1 := World.cell?_of_block (a := ⟨B, 1, none⟩) hk3.2.1
      have c2 := World.cell?_of_block (a := ⟨B, 2, none⟩) hk3.2.1
      have c3 := World.cell?_of_block (a := ⟨B, 3, none⟩) hk3.2.1
      have c4 := World.cell?_of_block (a := ⟨B, 4, none⟩) hk3.2.1
      have f0 := World.frozen?_of_block (a := ⟨B, 0, none⟩) hk3.2.1
      have f1 := World.frozen?_of_block (a := ⟨B, 1, none⟩) hk3.2.1
      have f2 := World.frozen?_of_block (a := ⟨B, 2, none⟩) hk3.2.1
      have f3 := World.frozen?_of_block (a := ⟨B, 3, none⟩) hk3.2.1
      have f4 := World.frozen?_of_block (a := ⟨B, 4, none⟩) hk3.2.1
      simp [go_sem, *] at c0 c1 c2 c3 c4 f0 f1 f2 f3 f4
      have hsz := hk3.1
      simp at hsz
      have hold : OldAs w0 W3 := fun k hk => by
        rw [hk3.2.2 k hk]
        have hne : k ≠ B := by omega
        rw [Below.heap_setCell _ _ _ k hne, Below.heap_setCell _ _ _ k hne, Below.heap_setCell _ _ _ k hne, Below.heap_setCell _ _ _ k hne, Below.heap_setCell _ _ _ k hne]
        have hkw : k < wr.heap.size := by omega
        exact (x1.block k hkw).trans (HO.out k hk)
      have hlen3 := HN.out _ _ HP.out hJ3
      have hnew : DR (g - 1) W3 := by
        rw [HDR.out]
        refine ⟨_, a', n', c', p', q', r', s', ⟨c0, c1, c2, c3, c4, f0, f1, f2, f3, f4⟩, ?_, hJ3, HP.out, hold, by omega, ?_⟩
        · rw [List.length_append]; exact HR'.out
        · have := HLEN.out; simp; omega
      have hle := (leastOf_spec (p := fun g => DR g W3) ⟨_, hnew⟩).2 _ hnew
      have HNEW := Lib.hid hnew
      clear hR hy hk3 hJ3 hold hnew e0 e1 e2 e3 e4 d0 d1 d2 d3 d4
      gi_wp2
      go_roundw
      case rel => exact ⟨_, HNEW.out⟩
      case measure => exact Nat.lt_of_le_of_lt hle (by omega)
    · gi_wp2
      refine bodyPost_ret (results_none rfl _ _ _) rfl ?_
      exact ⟨⟨_, rfl⟩, .inr ⟨_, HP.out, hJx3⟩⟩
end Go.Proofs.Ytmbgaonnknaclaa
