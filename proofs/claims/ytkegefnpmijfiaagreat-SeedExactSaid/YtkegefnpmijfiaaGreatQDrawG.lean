/- rng.draws: what its iterator promises. rng.Draw: the first draw that is not refused. -/
import Derived.Test.YtkegefnpmijfiaaGreatQGbI
import Derived.Test.YtkegefnpmijfiaaGreatQRand
import Derived.Deep.LoopGhost
namespace Go.Proofs.YtkegefnpmijfiaaGreat
open Go.RowKit Go.Shelf
attribute [local go_sem] Oper.semAt_some
/-- The generator behind k draws; the k-th draw. -/
def Gen.after (g : Gen) : Nat → Gen
  | 0 => g
  | k + 1 => (g.after k).step.2
def Gen.val (g : Gen) (k : Nat) : Int := (g.after k).step.1
/-- What came of draws: number by number, each with the generator behind it. -/
def DrawsPre (w0 : World) (g : Gen) (pre : List (Int × Value)) : Prop := ∀ i x, pre[i]? = some x → x.1 = g.val i ∧ RandAt w0 x.2 (g.after (i + 1))
theorem DrawsPre.snoc {w0 : World} {g : Gen} {pre : List (Int × Value)} (h : DrawsPre w0 g pre) {x : Int × Value} (h1 : x.1 = g.val pre.length) (h2 : RandAt w0 x.2 (g.after (pre.length + 1))) : DrawsPre w0 g (pre ++ [x]) := fun i y hy => by
  rcases Nat.lt_or_ge i pre.length with hi | hi
  · rw [List.getElem?_append_left hi] at hy; exact h i y hy
  · rw [List.getElem?_append_right hi] at hy
    rcases Nat.eq_zero_or_pos (i - pre.length) with h0 | h0
    · rw [h0] at hy
      simp at hy
      subst hy
      obtain rfl : i = pre.length := by omega
      exact ⟨h1, h2⟩
    · rw [List.getElem?_eq_none (by simp; omega)] at hy; cases hy
set_option maxHeartbeats 400000 in
set_option maxRecDepth 100000 in
theorem draws_iter (n : Nat) (hn : 1 ≤ n) (B N : Nat) (g0 : Gen) (w0 w : World) (a : Option Addr) (m c : Nat) (p q r s : Int) (h0 : RandAt w0 (.agg #[.slice a m c, .int .u64 p, .int .u64 q, .int .u64 r, .int .u64 s]) g0) (ho : OldAs w0 w) (hB : w0.heap.size ≤ B) (hBw : B < w.heap.size)
    (hS : StepAt w B (.slice a m c) p q r s) :
    Iter Fence.wide n Tryz.prog 243 #[.pointer (some ⟨B, 0, none⟩)] (fun x : Int × Value => #[.int .u64 x.1, x.2]) (KeptD w0 B) (DrawsPre w0 g0) (fun _ => False) N B w := by
  intro l J Jx W hK hJ hJx hY hN hj0
  have hoW : OldAs w0 W := fun k hk => (hK.2.2 k hk).trans (ho k hk)
  have hBW : B < W.heap.size := Nat.lt_of_lt_of_le hBw hK.1
  have hSW : StepAt W B (.slice a m c) p q r s := by
    obtain ⟨c0, c1, c2, c3, c4, f0, f1, f2, f3, f4⟩ := hS
    have e : ∀ o, W.cell? ⟨B, o, none⟩ = w.cell? ⟨B, o, none⟩ := fun o => World.cell?_of_block hK.2.1
    have e' : ∀ o, W.frozen? ⟨B, o, none⟩ = w.frozen? ⟨B, o, none⟩ := fun o => World.frozen?_of_block hK.2.1
    exact ⟨by rw [e]; exact c0, by rw [e]; exact c1, by rw [e]; exact c2, by rw [e]; exact c3, by rw [e]; exact c4, by rw [e']; exact f0, by rw [e']; exact f1, by rw [e']; exact f2, by rw [e']; exact f3, by rw [e']; exact f4⟩
  clear hK ho hBw hS
  refine callsIn_of_wp Tryz.func243 rfl trivial ?_ rfl
  simp only [Tryz.ntmps243, List.size_toArray, List.length_cons, List.length_nil, Nat.reduceAdd, Nat.reduceSub, Array.replicate_succ, Array.replicate_zero, List.push_toArray, List.append_toArray, List.nil_append, List.cons_append]
  gi_wp2
  obtain ⟨DR, hDR⟩ : ∃ DR : Nat → World → Prop, DR = fun g wr => ∃ (pre : List (Int × Value)) (a : Option Addr) (m c : Nat) (p q r s : Int), StepAt wr B (.slice a m c) p q r s ∧ RandAt w0 (.agg #[.slice a m c, .int .u64 p, .int .u64 q, .int .u64 r, .int .u64 s]) (g0.after pre.length) ∧ J pre wr ∧ DrawsPre w0 g0 pre ∧ OldAs w0 wr ∧ B < wr.heap.size ∧ pre.length + g = N + 1 := ⟨_, rfl⟩
  gi_loopw [3] (fun _ wr => ∃ g, DR g wr) (fun _ wr => leastOf (fun g => DR g wr))
  case atStart => exact ⟨N + 1, by rw [hDR]; exact ⟨[], a, m, c, p, q, r, s, hSW, h0, hj0, fun i x h => by simp at h, hoW, hBW, by simp⟩⟩
  case round =>
    have hl := leastOf_spec hrel
    generalize hg0 : leastOf _ = g at *
    obtain ⟨hg, -⟩ := hl
    clear hrel hSW h0 hj0 hoW hBW
    rw [hDR] at hg
    obtain ⟨pre, a, m, c, p, q, r, s, ⟨c0, c1, c2, c3, c4, f0, f1, f2, f3, f4⟩, hr, hj, hd, ho, hBr, hlen⟩ := hg
    have g1 : 1 ≤ g := by
      have := hN pre wr hd hj
      omega
    have st := step_any hr ho
    obtain ⟨X, hX⟩ : ∃ X, (g0.after pre.length).step.1 = X := ⟨_, rfl⟩
    rw [hX] at st
    have HX := Lib.hid hX
    have ST := Lib.hid st
    clear st hX
    have HJ := Lib.hid hJ
    have HD := Lib.hid hd
    have HO := Lib.hid ho
    have HR := Lib.hid hr
    have HJ0 := Lib.hid hj
    have HY := Lib.hid hY
    have HN := Lib.hid hN
    have HBx := Lib.hid hJx
    have HDR := Lib.hid hDR
    clear hr hj hd ho hJ hY hN hJx hDR
    gi_wp2_with fail
    refine ⟨trivial, ?_⟩
    refine (callsIn_wide.2 ST.out).mono ?_
    rintro e v1 ⟨v', rfl, x1, hr'⟩
    obtain ⟨a', n', c', p', q', r', s', rfl, hn'⟩ := hr'.form
    obtain ⟨k1, t1⟩ := x1.rules
    have z1 := x1.size
    have hb1 : B < v1.heap.size := by omega
    have e0 := (k1 B 0 hBr).trans c0
    have e1 := (k1 B 1 hBr).trans c1
    have e2 := (k1 B 2 hBr).trans c2
    have e3 := (k1 B 3 hBr).trans c3
    have e4 := (k1 B 4 hBr).trans c4
    have d0 := (t1 B 0 hBr).trans f0
    have d1 := (t1 B 1 hBr).trans f1
    have d2 := (t1 B 2 hBr).trans f2
    have d3 := (t1 B 3 hBr).trans f3
    have d4 := (t1 B 4 hBr).trans f4
    have HR' := Lib.hid hr'
    have HLEN := Lib.hid hlen
    clear k1 t1 hr' hn' c0 c1 c2 c3 c4 f0 f1 f2 f3 f4 hlen hg0 ST
    have hpre : DrawsPre w0 g0 (pre ++ [(X, .agg #[.slice a' n' c', .int .u64 p', .int .u64 q', .int .u64 r', .int .u64 s'])]) := HD.out.snoc HX.out.symm HR'.out
    have hj2 := HJ.out pre _ _ (HJ.out pre _ _ (HJ.out pre _ _ (HJ.out pre _ _ (HJ.out pre _ _ (HJ.out pre _ _ HJ0.out (x1.grow _)) (grow_at v1 B 0 (.slice a' n' c'))) (grow_at _ B 1 (.int .u64 p'))) (grow_at _ B 2 (.int .u64 q'))) (grow_at _ B 3 (.int .u64 r'))) (grow_at _ B 4 (.int .u64 s'))
    obtain ⟨fn, tmps, assign, body, hy, hR⟩ := HY.out _ _ _ hpre hj2
    have HP := Lib.hid hpre
    clear hj2 hpre
    gi_wp2
    refine hR.mono ?_
    rintro e W3 (⟨rfl, hJ3, hk3⟩ | ⟨rfl, hJx3⟩)
    · have c0 := World.cell?_of_block (a := ⟨B, 0, none⟩) hk3.2.1
      have c1 := World.cell?_of_block (a := ⟨B, 1, none⟩) hk3.2.1
      have c2 := World.cell?_of_block (a := ⟨B, 2, none⟩) hk3.2.1
      have c3 := World.cell?_of_block (a := ⟨B, 3, none⟩) hk3.2.1
      have c4 := World.cell?_of_block (a := ⟨B, 4, none⟩) hk3.2.1
      have f0 := World.frozen?_of_block (a := ⟨B, 0, none⟩) hk3.2.1
      have f1 := World.frozen?_of_block (a := ⟨B, 1, none⟩) hk3.2.1
      have f2 := World.frozen?_of_block (a := ⟨B, 2, none⟩) hk3.2.1
      have f3 := World.frozen?_of_block (a := ⟨B, 3, none⟩) hk3.2.1
      have f4 := World.frozen?_of_block (a := ⟨B, 4, none⟩) hk3.2.1
      simp [go_sem, *] at c0 c1 c2 c3 c4 f0 f1 f2 f3 f4
      have hsz := hk3.1
      simp at hsz
      have hold : OldAs w0 W3 := fun k hk => by
        rw [hk3.2.2 k hk]
        have hne : k ≠ B := by omega
        rw [Below.heap_setCell _ _ _ k hne, Below.heap_setCell _ _ _ k hne, Below.heap_setCell _ _ _ k hne, Below.heap_setCell _ _ _ k hne, Below.heap_setCell _ _ _ k hne]
        have hkw : k < wr.heap.size := by omega
        exact (x1.block k hkw).trans (HO.out k hk)
      have hlen3 := HN.out _ _ HP.out hJ3
      have hnew : DR (g - 1) W3 := by
        rw [HDR.out]
        refine ⟨_, a', n', c', p', q', r', s', ⟨c0, c1, c2, c3, c4, f0, f1, f2, f3, f4⟩, ?_, hJ3, HP.out, hold, by omega, ?_⟩
        · rw [List.length_append]; exact HR'.out
        · have := HLEN.out; simp; omega
      have hle := (leastOf_spec (p := fun g => DR g W3) ⟨_, hnew⟩).2 _ hnew
      have HNEW := Lib.hid hnew
      clear hR hy hk3 hJ3 hold hnew e0 e1 e2 e3 e4 d0 d1 d2 d3 d4
      gi_wp2
      go_roundw
      case rel => exact ⟨_, HNEW.out⟩
      case measure => exact Nat.lt_of_le_of_lt hle (by omega)
    · gi_wp2
      refine bodyPost_ret (results_none rfl _ _ _) rfl ?_
      exact ⟨⟨_, rfl⟩, .inr ⟨_, HP.out, hJx3⟩⟩
end Go.Proofs.YtkegefnpmijfiaaGreat
namespace Go.Proofs.YtkegefnpmijfiaaGreat
open Go.RowKit Go.Shelf
attribute [local go_sem] Oper.semAt_some
/-- 2^64 modulo n. -/
def left64 (n : Int) : Int := 18446744073709551616 % n
def Refused (n x : Int) : Prop := left64 n ≠ 0 ∧ 18446744073709551616 - left64 n ≤ x
theorem left64_eq (n : Int) : (18446744073709551615 % n + 1) % n = left64 n := by
  unfold left64
  rw [Int.emod_add_emod]; rfl
theorem left64_bd {n : Int} (h0 : 0 < n) : 0 ≤ left64 n ∧ left64 n < n := ⟨Int.emod_nonneg _ (by omega), Int.emod_lt_of_pos _ h0⟩
theorem draws_any (a : Option Addr) (m c : Nat) (p q r s : Int) (w : World) :
    Calls Tryz.prog 192 #[.agg #[.slice a m c, .int .u64 p, .int .u64 q, .int .u64 r, .int .u64 s]] w fun e w' => e = .returned (.func (.func 243) #[] #[.pointer (some ⟨w.heap.size, 0, none⟩)]) ∧ w' = w.alloc (.cells #[.slice a m c, .int .u64 p, .int .u64 q, .int .u64 r, .int .u64 s] 62) := by
  go_enter Tryz.func192, Tryz.ntmps192
  go_wp2
  go_ret
  exact ⟨rfl, rfl⟩
/-- A generator's value. -/
def rv (a : Option Addr) (m c : Nat) (p q r s : Int) : Array Value := #[.slice a m c, .int .u64 p, .int .u64 q, .int .u64 r, .int .u64 s]
/-- What Draw's own blocks hold: the generator, n, the result's room, left, y. -/
structure DrawLoc (w W : World) (n L y : Int) (a : Option Addr) (m c : Nat) (p q r s : Int) : Prop where
  b0 : Blk W w.heap.size 62 (rv a m c p q r s)
  b1 : Blk W (w.heap.size + 1) 59 #[.int .u64 n]
  b2 : Blk W (w.heap.size + 1 + 1) 62 (rv none 0 0 0 0 0 0)
  b3 : Blk W (w.heap.size + 1 + 1 + 1) 59 #[.int .u64 L]
  b4 : Blk W (w.heap.size + 1 + 1 + 1 + 1) 59 #[.int .u64 y]
section
variable {w W W' : World} {n L y : Int} {a : Option Addr} {m c : Nat} {p q r s : Int}
theorem DrawLoc.kept (h : DrawLoc w W n L y a m c p q r s) {row : Option Nat} (hb : W.grownBy W' row) (hrow : ∀ r, row = some r → ∃ o : Obj, W.heap[r]? = some o ∧ o.isCells = false) : DrawLoc w W' n L y a m c p q r s :=
  ⟨h.b0.kept hb hrow, h.b1.kept hb hrow, h.b2.kept hb hrow, h.b3.kept hb hrow, h.b4.kept hb hrow⟩
theorem DrawLoc.grown (h : DrawLoc w W n L y a m c p q r s) {B : Nat} (hb : W.grownBy W' (some B)) (hB : w.heap.size + 1 + 1 + 1 + 1 < B) : DrawLoc w W' n L y a m c p q r s :=
  ⟨h.b0.grown hb (by simp; omega), h.b1.grown hb (by simp; omega), h.b2.grown hb (by simp; omega), h.b3.grown hb (by simp; omega), h.b4.grown hb (by simp; omega)⟩
theorem DrawLoc.ext (h : DrawLoc w W n L y a m c p q r s) (x : Ext W W') : DrawLoc w W' n L y a m c p q r s :=
  ⟨h.b0.ext x, h.b1.ext x, h.b2.ext x, h.b3.ext x, h.b4.ext x⟩
end
theorem draw_end {w W : World} {n L y : Int} {a a' : Option Addr} {m c m' c' : Nat} {p q r s p' q' r' s' : Int} (Y : Int) (h : DrawLoc w W n L y a m c p q r s) :
    DrawLoc w ((((((W.setCell ⟨w.heap.size + 1 + 1 + 1 + 1, 0, none⟩ (.int .u64 Y)).setCell ⟨w.heap.size, 0, none⟩ (.slice a' m' c')).setCell ⟨w.heap.size, 1, none⟩ (.int .u64 p')).setCell ⟨w.heap.size, 2, none⟩ (.int .u64 q')).setCell ⟨w.heap.size, 3, none⟩ (.int .u64 r')).setCell ⟨w.heap.size, 4, none⟩ (.int .u64 s')).drew n L Y a' m' c' p' q' r' s' :=
  ⟨((((((h.b0.far (by simp <;> omega) _).set_ 0 _).set_ 1 _).set_ 2 _).set_ 3 _).set_ 4 _).drew,
   ((((((h.b1.far (by simp <;> omega) _).far (by simp <;> omega) _).far (by simp <;> omega) _).far (by simp <;> omega) _).far (by simp <;> omega) _).far (by simp <;> omega) _).drew,
   ((((((h.b2.far (by simp <;> omega) _).far (by simp <;> omega) _).far (by simp <;> omega) _).far (by simp <;> omega) _).far (by simp <;> omega) _).far (by simp <;> omega) _).drew,
   ((((((h.b3.far (by simp <;> omega) _).far (by simp <;> omega) _).far (by simp <;> omega) _).far (by simp <;> omega) _).far (by simp <;> omega) _).far (by simp <;> omega) _).drew,
   ((((((h.b4.set_ 0 _).far (by simp <;> omega) _).far (by simp <;> omega) _).far (by simp <;> omega) _).far (by simp <;> omega) _).far (by simp <;> omega) _).drew⟩
theorem draw_keeps (w W : World) (v0 v1 v2 v3 v4 v5 : Value) : KeepsOthers W ((((((W.setCell ⟨w.heap.size + 1 + 1 + 1 + 1, 0, none⟩ v0).setCell ⟨w.heap.size, 0, none⟩ v1).setCell ⟨w.heap.size, 1, none⟩ v2).setCell ⟨w.heap.size, 2, none⟩ v3).setCell ⟨w.heap.size, 3, none⟩ v4).setCell ⟨w.heap.size, 4, none⟩ v5).drew :=
  ((((((KeepsOthers.setCell _ _ _).trans (KeepsOthers.setCell _ _ _)).trans (KeepsOthers.setCell _ _ _)).trans (KeepsOthers.setCell _ _ _)).trans (KeepsOthers.setCell _ _ _)).trans (KeepsOthers.setCell _ _ _)).trans (keeps_drew _)
theorem draw_ext {w W : World} (v0 v1 v2 v3 v4 v5 : Value) (hext : Ext w W) : Ext w ((((((W.setCell ⟨w.heap.size + 1 + 1 + 1 + 1, 0, none⟩ v0).setCell ⟨w.heap.size, 0, none⟩ v1).setCell ⟨w.heap.size, 1, none⟩ v2).setCell ⟨w.heap.size, 2, none⟩ v3).setCell ⟨w.heap.size, 3, none⟩ v4).setCell ⟨w.heap.size, 4, none⟩ v5).drew := Ext.q
set_option maxHeartbeats 1000000 in
set_option maxRecDepth 100000 in
theorem draw_any (n : Int) (g : Gen) (v : Value) (w0 w : World) (h : RandAt w0 v g) (ho : OldAs w0 w) (n0 : 0 < n) (n1 : n < 18446744073709551616) (vnn : ∀ k, 0 ≤ g.val k) (N : Nat) (hN : ∀ k, (∀ j, j < k → Refused n (g.val j)) → k ≤ N) :
    Calls Tryz.prog 125 #[v, .int .u64 n] w fun e w' => ∃ k v', (∀ j, j < k → Refused n (g.val j)) ∧ ¬ Refused n (g.val k) ∧ e = .returned (.tuple #[.int .u64 (g.val k % n), v']) ∧ Ext w w' ∧ RandAt w0 v' (g.after (k + 1)) := by
  have hw0 := ho.le
  have HO := Lib.hid ho
  clear ho
  have HR := Lib.hid h
  have VN := Lib.hid vnn
  have HN := Lib.hid hN
  clear hN vnn
  obtain ⟨a, m, c, p, q, r, s, rfl, -⟩ := h.form
  clear h
  obtain ⟨A, hA, A0, A1⟩ : ∃ A, 18446744073709551615 % n = A ∧ 0 ≤ A ∧ A < n := ⟨_, rfl, Int.emod_nonneg _ (by omega), Int.emod_lt_of_pos _ n0⟩
  have w1 : IntKind.u64.wrap (A + 1) = A + 1 := by rw [IntKind.wrap_u64]; omega
  obtain ⟨L, hL⟩ : ∃ L, (A + 1) % n = L := ⟨_, rfl⟩
  have LE := Lib.hid (left64_eq n)
  refine (callsIn_wide (n := 10)).1 ?_
  refine callsIn_of_wp_marks Tryz.func125 rfl trivial ?_
  simp only [Tryz.ntmps125, List.size_toArray, List.length_cons, List.length_nil, Nat.reduceAdd, Nat.reduceSub, Array.replicate_succ, Array.replicate_zero, List.push_toArray, List.append_toArray, List.nil_append, List.cons_append]
  refine wpIn_wide.2 ?_
  go_wp2_with fail
  go_step3
  go_wp2_with fail
  go_region
  go_wp2_with fail
  go_step3
  go_wp2_with fail
  refine (draws_any a m c p q r s _).mono ?_
  rintro e v1 ⟨rfl, rfl⟩
  go_wp2_with fail
  refine (wpIn_wide (n := 10)).1 ?_
  obtain ⟨M, hM⟩ : ∃ M, IntKind.u64.wrap (-L) = M := ⟨_, rfl⟩
  have HM := Lib.hid hM
  have HL : Hid (left64 n = L) := Lib.hid (by rw [← LE.out, hA, hL])
  clear hM hL hA w1 LE
  refine range_iter rfl (by omega) (gf := 243) (lb := #[.pointer (some ⟨w.heap.size + 1 + 1 + 1 + 1 + 1, 0, none⟩)]) rfl trivial (enters_of Tryz.func243 (by kernel_rfl) rfl)
    (draws_iter 9 (by omega) (w.heap.size + 1 + 1 + 1 + 1 + 1) N g w0 _ a m c p q r s HR.out (HO.out.ext Ext.q) (by omega) (by simp) ⟨by simp [go_sem], by simp [go_sem], by simp [go_sem], by simp [go_sem], by simp [go_sem], by simp [go_sem], by simp [go_sem], by simp [go_sem], by simp [go_sem], by simp [go_sem]⟩) (by simp)
    (fun h k => h.trans k) (fun W l o hl => KeptD.put W (by simp at hl; omega) (by simp at hl; omega)) (fun W o hl => KeptD.ext (Ext.alloc (Ext.refl _) _) (by simp at hl; omega) (by simp at hl; omega)) (fun _ => rfl)
    (fun pre W => ((∀ j, j < pre.length → Refused n (g.val j)) ∧ DrawLoc w W n L 0 a m c p q r s) ∧ Ext w W)
    (fun c' pre W => (c' = Code.exit 0 ∧ ∃ (k : Nat) (a' : Option Addr) (m' c' : Nat) (p' q' r' s' : Int), (∀ j, j < k → Refused n (g.val j)) ∧ ¬ Refused n (g.val k) ∧ RandAt w0 (.agg (rv a' m' c' p' q' r' s')) (g.after (k + 1)) ∧ DrawLoc w W n L (g.val k % n) a' m' c' p' q' r' s') ∧ Ext w W)
    (OwnFrom.and (fun s A B row hs hg hr => ⟨hs.1, hs.2.kept hg (fun r e => (hr r e).2)⟩) (ownFrom_below (Nat.le_refl _) (by simp; omega)))
    (fun c' => OwnFrom.and (fun s A B row hs hg hr => by
      obtain ⟨rfl, k, a', m', c', p', q', r', s', h1, h2, h3, h4⟩ := hs
      exact ⟨rfl, k, a', m', c', p', q', r', s', h1, h2, h3, h4.kept hg (fun r e => (hr r e).2)⟩) (ownFrom_below (Nat.le_refl _) (by simp; omega)))
    (fun s A B hs hg => ⟨⟨hs.1.1, hs.1.2.grown hg (by omega)⟩, Ext.grown hs.2 hg (fun k e => by cases e; omega)⟩)
    (fun c' s A B hs hg => by
      obtain ⟨⟨rfl, k, a', m', c', p', q', r', s', h1, h2, h3, h4⟩, hx⟩ := hs
      exact ⟨⟨rfl, k, a', m', c', p', q', r', s', h1, h2, h3, h4.grown hg (by omega)⟩, Ext.grown hx hg (fun k e => by cases e; omega)⟩)
    ⟨⟨fun j hj => by simp at hj, ⟨by simpa [rv] using ((((((Blk.new w _ _).alloc _).alloc _).alloc _).alloc _).alloc _).drew, by simpa using (((((Blk.new (w.alloc _) _ _).alloc _).alloc _).alloc _).alloc _).drew, by simpa [rv] using ((((Blk.new ((w.alloc _).alloc _) _ _).alloc _).alloc _).alloc _).drew, by simpa using (((Blk.new (((w.alloc _).alloc _).alloc _) _ _).alloc _).alloc _).drew, by simpa using ((Blk.new ((((w.alloc _).alloc _).alloc _).alloc _) _ _).alloc _).drew⟩⟩, Ext.q⟩
    (fun pre W hp hi => HN.out _ hi.1.1) ?round ?done ?stop
  case round =>
    intro l pre x W hsz hp hi
    obtain ⟨hx1, hx2⟩ := hp pre.length x (by simp)
    obtain ⟨x1, x2⟩ := x
    simp only at hx1 hx2
    obtain ⟨a', m', c', p', q', r', s', rfl, hm'⟩ := hx2.form
    have HX1 := Lib.hid hx1
    have HX2 := Lib.hid hx2
    have HI := Lib.hid hi
    have hsz' : w.heap.size + 1 + 1 + 1 + 1 + 1 < W.heap.size := by simp at hsz; omega
    clear hx1 hx2 hi hsz hp hm'
    gi_wp2
    refine ⟨Ext.keeps Ext.q, KeptD.ext (show Ext W _ from Ext.q) (by omega) (by omega), ⟨⟨HI.out.1.1, HI.out.1.2.ext Ext.q⟩, Ext.tr HI.out.2 Ext.q⟩, fun Y => Blk Y W.heap.size 62 (rv a' m' c' p' q' r' s'), fun _ A B row hs hg hr => hs.kept hg (fun r e => (hr r e).2), Blk.new _ _ _, fun W2 hlt hi2 hb9 => ?_⟩
    obtain ⟨⟨href, hloc⟩, hext⟩ := hi2
    have k0 := (hb9.cell 0).trans (show (rv a' m' c' p' q' r' s')[0]? = some (.slice a' m' c') from rfl)
    have k1 := (hb9.cell 1).trans (show (rv a' m' c' p' q' r' s')[1]? = some (.int .u64 p') from rfl)
    have k2 := (hb9.cell 2).trans (show (rv a' m' c' p' q' r' s')[2]? = some (.int .u64 q') from rfl)
    have k3 := (hb9.cell 3).trans (show (rv a' m' c' p' q' r' s')[3]? = some (.int .u64 r') from rfl)
    have k4 := (hb9.cell 4).trans (show (rv a' m' c' p' q' r' s')[4]? = some (.int .u64 s') from rfl)
    have kn := (hloc.b1.cell 0).trans (show (#[Value.int .u64 n] : Array Value)[0]? = some (.int .u64 n) from rfl)
    have kL := (hloc.b3.cell 0).trans (show (#[Value.int .u64 L] : Array Value)[0]? = some (.int .u64 L) from rfl)
    have ky := (hloc.b4.cell 0).trans (show (#[Value.int .u64 0] : Array Value)[0]? = some (.int .u64 0) from rfl)
    have kr0 := (hloc.b0.cell 0).trans (show (rv a m c p q r s)[0]? = some (.slice a m c) from rfl)
    have kr1 := (hloc.b0.cell 1).trans (show (rv a m c p q r s)[1]? = some (.int .u64 p) from rfl)
    have kr2 := (hloc.b0.cell 2).trans (show (rv a m c p q r s)[2]? = some (.int .u64 q) from rfl)
    have kr3 := (hloc.b0.cell 3).trans (show (rv a m c p q r s)[3]? = some (.int .u64 r) from rfl)
    have kr4 := (hloc.b0.cell 4).trans (show (rv a m c p q r s)[4]? = some (.int .u64 s) from rfl)
    have fy := hloc.b4.frozen 0
    have f0 := hloc.b0.frozen 0
    have f1 := hloc.b0.frozen 1
    have f2 := hloc.b0.frozen 2
    have f3 := hloc.b0.frozen 3
    have f4 := hloc.b0.frozen 4
    have LOC := Lib.hid hloc
    have REF := Lib.hid href
    have XT := Lib.hid hext
    have HLT := Lib.hid hlt
    have bd := left64_bd n0
    rw [HL.out] at bd
    obtain ⟨L0, L1⟩ := bd
    have RI : Hid (Refused n x1 ↔ L ≠ 0 ∧ M ≤ x1) := Lib.hid (by
      unfold Refused
      rw [HL.out, ← HM.out, IntKind.wrap_u64]
      constructor <;> (rintro ⟨h1, h2⟩; refine ⟨h1, ?_⟩; omega))
    have hw : IntKind.u64.wrap (-L) = M := HM.out
    obtain ⟨Y, hY⟩ : ∃ Y, x1.tmod n = Y := ⟨_, rfl⟩
    have HY : Hid (g.val pre.length % n = Y) := Lib.hid (by rw [← hY, ← HX1.out, Int.tmod_eq_emod_of_nonneg (by rw [HX1.out]; exact VN.out _)])
    have hnz : (n == 0) = false := by simp; omega
    have LEND : Hid (DrawLoc w _ n L (g.val pre.length % n) a' m' c' p' q' r' s') := Lib.hid (by rw [HY.out]; exact draw_end Y hloc)
    have hg9 : w.heap.size + 1 + 1 + 1 + 1 < W.heap.size := by omega
    clear hloc href hext hlt hb9
    by_cases hL0 : L = 0
    · have t1 : (L == 0) = true := by simp [hL0]
      have NR : Hid (¬ Refused n (g.val pre.length)) := Lib.hid (by rw [← HX1.out, RI.out]; simp [hL0])
      have HL0 := Lib.hid hL0
      clear hL0
      gi_wp2
      gi_region
      all_goals
        repeat gi_step
        exact ends_exit (draw_keeps w _ _ _ _ _ _ _) ⟨⟨rfl, pre.length, a', m', c', p', q', r', s', REF.out, NR.out, HX2.out, LEND.out⟩, draw_ext _ _ _ _ _ _ XT.out⟩
    · have t1 : (L == 0) = false := by simpa using hL0
      by_cases hxM : x1 < M
      · have t2 : decide (x1 < M) = true := by simpa using hxM
        have NR : Hid (¬ Refused n (g.val pre.length)) := Lib.hid (by rw [← HX1.out, RI.out]; rintro ⟨_, h⟩; omega)
        have HL0 := Lib.hid hL0
        clear hL0
        gi_wp2
        gi_region
        all_goals
          repeat gi_step
          exact ends_exit (draw_keeps w _ _ _ _ _ _ _) ⟨⟨rfl, pre.length, a', m', c', p', q', r', s', REF.out, NR.out, HX2.out, LEND.out⟩, draw_ext _ _ _ _ _ _ XT.out⟩
      · have t2 : decide (x1 < M) = false := by simpa using hxM
        have YR : Hid (Refused n (g.val pre.length)) := Lib.hid (by rw [← HX1.out, RI.out]; exact ⟨hL0, by omega⟩)
        have HL0 := Lib.hid hL0
        clear hL0
        gi_wp2
        refine ends_normal (KeepsOthers.refl _) ⟨Nat.le_refl _, rfl, fun _ _ => rfl⟩ ⟨⟨fun j hj => ?_, LOC.out⟩, XT.out⟩
        rw [List.length_append] at hj
        rcases Nat.lt_succ_iff_lt_or_eq.1 hj with h | rfl
        · exact REF.out j h
        · exact YR.out
  case done => exact fun D ys W _ h => h.elim
  case stop =>
    rintro D c'' pre W hD hp ⟨⟨rfl, k, a', m', c', p', q', r', s', h1, h2, h3, h4⟩, hx⟩ hK
    have H1 := Lib.hid h1
    have H2 := Lib.hid h2
    have H3 := Lib.hid h3
    have HH := Lib.hid h4
    have HX := Lib.hid hx
    obtain ⟨Y, hY⟩ : ∃ Y, g.val k % n = Y := ⟨_, rfl⟩
    rw [hY] at h4
    have HY := Lib.hid hY
    have ky := (h4.b4.cell 0).trans (show (#[Value.int .u64 Y] : Array Value)[0]? = some (.int .u64 Y) from rfl)
    have k0 := (h4.b0.cell 0).trans (show (rv a' m' c' p' q' r' s')[0]? = some (.slice a' m' c') from rfl)
    have k1 := (h4.b0.cell 1).trans (show (rv a' m' c' p' q' r' s')[1]? = some (.int .u64 p') from rfl)
    have k2 := (h4.b0.cell 2).trans (show (rv a' m' c' p' q' r' s')[2]? = some (.int .u64 q') from rfl)
    have k3 := (h4.b0.cell 3).trans (show (rv a' m' c' p' q' r' s')[3]? = some (.int .u64 r') from rfl)
    have k4 := (h4.b0.cell 4).trans (show (rv a' m' c' p' q' r' s')[4]? = some (.int .u64 s') from rfl)
    have j0 := (h4.b2.cell 0).trans (show (rv none 0 0 0 0 0 0)[0]? = some (.slice none 0 0) from rfl)
    have j1 := (h4.b2.cell 1).trans (show (rv none 0 0 0 0 0 0)[1]? = some (.int .u64 0) from rfl)
    have j2 := (h4.b2.cell 2).trans (show (rv none 0 0 0 0 0 0)[2]? = some (.int .u64 0) from rfl)
    have j3 := (h4.b2.cell 3).trans (show (rv none 0 0 0 0 0 0)[3]? = some (.int .u64 0) from rfl)
    have j4 := (h4.b2.cell 4).trans (show (rv none 0 0 0 0 0 0)[4]? = some (.int .u64 0) from rfl)
    have f0 := h4.b2.frozen 0
    have f1 := h4.b2.frozen 1
    have f2 := h4.b2.frozen 2
    have f3 := h4.b2.frozen 3
    have f4 := h4.b2.frozen 4
    have HK := Lib.hid hK
    clear h1 h2 h3 h4 hx hY hK hp
    refine (wpIn_wide (n := 10)).2 ?_
    go_wp2_with fail
    go_region
    go_wp2_with fail
    rw [Exit.noGoto_ret]
    have hne : D ≠ w.heap.size + 1 + 1 := by simp at hD; omega
    obtain ⟨Wf, hWf⟩ : ∃ Wf, Wf = (((((W.setCell ⟨w.heap.size + 1 + 1, 0, none⟩ (.slice a' m' c')).setCell ⟨w.heap.size + 1 + 1, 1, none⟩ (.int .u64 p')).setCell ⟨w.heap.size + 1 + 1, 2, none⟩ (.int .u64 q')).setCell ⟨w.heap.size + 1 + 1, 3, none⟩ (.int .u64 r')).setCell ⟨w.heap.size + 1 + 1, 4, none⟩ (.int .u64 s')).drew := ⟨_, rfl⟩
    have bf : Blk Wf (w.heap.size + 1 + 1) 62 (rv a' m' c' p' q' r' s') := by
      rw [hWf]; exact ((((((HH.out.b2.set_ 0 _).set_ 1 _).set_ 2 _).set_ 3 _).set_ 4 _).drew)
    have hKf : Wf.heap[D]? = some (.deferred (some [])) := by
      rw [hWf]
      exact (Below.heap_setCell _ _ _ D hne).trans ((Below.heap_setCell _ _ _ D hne).trans ((Below.heap_setCell _ _ _ D hne).trans ((Below.heap_setCell _ _ _ D hne).trans ((Below.heap_setCell _ _ _ D hne).trans HK.out))))
    have xf : Ext w Wf := by rw [hWf]; have hx := HX.out; exact Ext.q
    rw [← hWf]
    clear hWf k0 k1 k2 k3 k4 j0 j1 j2 j3 j4 f0 f1 f2 f3 f4 ky
    have hP : w.heap.size ≤ D := by simp at hD; omega
    have XF : Ext w (Wf.putObj D (.deferred none)) := xf.trans (belowK_b (w := w) (Nat.le_refl _) Wf D _ _ hP hKf rfl rfl)
    have bp : Blk (Wf.putObj D (.deferred none)) (w.heap.size + 1 + 1) 62 (rv a' m' c' p' q' r' s') := (World.putObj_heap_other (fun e => hne e.symm)).trans bf
    have k0 := (bp.cell 0).trans (show (rv a' m' c' p' q' r' s')[0]? = some (.slice a' m' c') from rfl)
    have k1 := (bp.cell 1).trans (show (rv a' m' c' p' q' r' s')[1]? = some (.int .u64 p') from rfl)
    have k2 := (bp.cell 2).trans (show (rv a' m' c' p' q' r' s')[2]? = some (.int .u64 q') from rfl)
    have k3 := (bp.cell 3).trans (show (rv a' m' c' p' q' r' s')[3]? = some (.int .u64 r') from rfl)
    have k4 := (bp.cell 4).trans (show (rv a' m' c' p' q' r' s')[4]? = some (.int .u64 s') from rfl)
    change bodyPostM _ _ _ _ _ _ _ _
    refine ⟨by simp, .inl ⟨_, _, rfl, run_takeDeferred hKf, ?_⟩⟩
    generalize Wf.putObj D (.deferred none) = Wp at *
    refine ⟨.tuple #[.int .u64 Y, .agg (rv a' m' c' p' q' r' s')], ?_, k, _, H1.out, H2.out, by rw [HY.out], XF, H3.out⟩
    simp [results, Tryz.results125, go_sem, k0, k1, k2, k3, k4, rv]
end Go.Proofs.YtkegefnpmijfiaaGreat
