/- fx.digits: what its iterator promises. -/
import Derived.Test.YtielcbpjnjdlmaaIter
import Derived.Test.YtielcbpjnjdlmaaFx
import Derived.Test.YtielcbpjnjdlmaaShift
import Derived.Test.YtielcbpjnjdlmaaNat1
import Derived.Deep.LoopGhost
namespace Go.Proofs.Ytielcbpjnjdlmaa
open Go.RowKit Go.Shelf
attribute [local go_sem] Oper.semAt_some
/-- What digits tells: decimal digits, not many. -/
def FewDec (pre : List Int) : Prop := pre.length ≤ 40 ∧ ∀ d ∈ pre, 48 ≤ d ∧ d ≤ 57
/-- The two blocks that the iterator reads lie as they lay. -/
def Kept2 (a b : Nat) (W W' : World) : Prop := W.heap.size ≤ W'.heap.size ∧ W'.heap[a]? = W.heap[a]? ∧ W'.heap[b]? = W.heap[b]?
theorem Kept2.cell {a b : Nat} {W W' : World} (h : Kept2 a b W W') (o : Nat) : W'.cell? ⟨a, o, none⟩ = W.cell? ⟨a, o, none⟩ ∧ W'.frozen? ⟨a, o, none⟩ = W.frozen? ⟨a, o, none⟩ ∧ W'.cell? ⟨b, o, none⟩ = W.cell? ⟨b, o, none⟩ ∧ W'.frozen? ⟨b, o, none⟩ = W.frozen? ⟨b, o, none⟩ :=
  ⟨World.cell?_of_block h.2.1, World.frozen?_of_block h.2.1, World.cell?_of_block h.2.2, World.frozen?_of_block h.2.2⟩
theorem grow_own (W : World) (B : Nat) (v : Value) : W.grownBy (W.setCell ⟨B, 0, none⟩ v) (some B) :=
  ⟨rfl, rfl, rfl, (KeepsWalks.setCell W _ v).size, fun k _ hk => Below.heap_setCell _ _ _ k (fun e => hk (by rw [e]))⟩
theorem grow_drew (W : World) (B : Nat) : W.grownBy W.drew (some B) := ⟨rfl, rfl, rfl, Nat.le_refl _, fun _ _ _ => rfl⟩
theorem low_bits {x f : Int} (x0 : 0 ≤ x) (x1 : x < 18446744073709551616) (f1 : f.toNat ≤ 32) : bits .and .u64 x (IntKind.u64.wrap (IntKind.u64.wrap (2 ^ f.toNat) - 1)) = x % 2 ^ f.toNat := by
  have p0 := pow_pos' f.toNat
  have p1 : (2 : Int) ^ f.toNat ≤ 4294967296 := Int.le_trans (pow_mono' (show (1 : Int) ≤ 2 by omega) f1) (by decide)
  have e1 : IntKind.u64.wrap (2 ^ f.toNat) = 2 ^ f.toNat := by rw [IntKind.wrap_u64]; omega
  have e2 : IntKind.u64.wrap ((2 : Int) ^ f.toNat - 1) = 2 ^ f.toNat - 1 := by rw [IntKind.wrap_u64]; omega
  rw [e1, e2, u64_and x _ x0 x1 (by omega) (by omega)]
  have e3 : ((2 : Int) ^ f.toNat - 1).toNat = 2 ^ f.toNat - 1 := by
    have : ((2 : Int) ^ f.toNat) = ((2 ^ f.toNat : Nat) : Int) := by simp
    omega
  rw [e3, Nat.and_two_pow_sub_one_eq_mod]
  have e4 : ((x.toNat % 2 ^ f.toNat : Nat) : Int) = (x.toNat : Int) % ((2 ^ f.toNat : Nat) : Int) := rfl
  rw [e4, Int.toNat_of_nonneg x0]
  simp
theorem more_zeros {p : Int} {i f : Nat} (hm : p % 2 ^ i = 0) (hi : i + 1 ≤ f) : p * 10 % 2 ^ f % 2 ^ (i + 1) = 0 := by
  rw [Int.emod_emod_of_dvd _ ⟨2 ^ (f - (i + 1)), by rw [← Int.pow_add]; congr 1; omega⟩]
  obtain ⟨k, hk⟩ := Int.dvd_of_emod_eq_zero hm
  refine Int.emod_eq_zero_of_dvd ⟨5 * k, ?_⟩
  rw [hk, Int.pow_succ]
  grind
theorem FewDec.snoc {pre : List Int} {d : Int} (h : FewDec pre) (hl : pre.length ≤ 32) (h1 : 48 ≤ d) (h2 : d ≤ 57) : FewDec (pre ++ [d]) :=
  ⟨by simp; omega, fun e he => by
    rcases List.mem_append.1 he with h' | h'
    · exact h.2 e h'
    · simp at h'; subst h'; exact ⟨h1, h2⟩⟩
set_option maxHeartbeats 2000000 in
set_option maxRecDepth 100000 in
theorem digits_iter (n : Nat) (hn : 1 ≤ n) (Bp Bf : Nat) (f p : Int) (w : World) (gf : gdF f = true) (p0 : 0 ≤ p) (p1 : p < 2 ^ f.toNat) (hp : w.cell? ⟨Bp, 0, none⟩ = some (.int .u64 p)) (hz : w.frozen? ⟨Bp, 0, none⟩ = false) (hf : w.cell? ⟨Bf, 0, none⟩ = some (.int .i64 f)) (hne : Bf ≠ Bp) :
    Iter Fence.wide n Try.prog 165 #[.pointer (some ⟨Bp, 0, none⟩), .pointer (some ⟨Bf, 0, none⟩)] (fun d : Int => #[.int .u8 d]) (Kept2 Bp Bf) FewDec FewDec 100 Bp w := by
  intro l J Jx W hK hJ hJx hY _ h0
  obtain ⟨c1, c2, c3, -⟩ := hK.cell 0
  rw [hp] at c1
  rw [hz] at c2
  rw [hf] at c3
  obtain ⟨f1, f2⟩ := gdF_iff.1 gf
  clear hK hp hz hf
  refine callsIn_of_wp Try.func165 rfl trivial ?_ rfl
  simp only [Try.ntmps165, List.size_toArray, List.length_cons, List.length_nil, Nat.reduceAdd, Nat.reduceSub, Array.replicate_succ, Array.replicate_zero, List.push_toArray, List.append_toArray, List.nil_append, List.cons_append]
  gi_wp2
  obtain ⟨DR, hDR⟩ : ∃ DR : Nat → World → Prop, DR = fun g wr => ∃ (pre : List Int) (p : Int) (i : Nat), wr.cell? ⟨Bp, 0, none⟩ = some (.int .u64 p) ∧ wr.frozen? ⟨Bp, 0, none⟩ = false ∧ wr.cell? ⟨Bf, 0, none⟩ = some (.int .i64 f) ∧ J pre wr ∧ FewDec pre ∧ pre.length = i ∧ i + g = f.toNat ∧ p % 2 ^ i = 0 ∧ 0 ≤ p ∧ p < 2 ^ f.toNat := ⟨_, rfl⟩
  gi_loopw [4] (fun _ wr => ∃ g, DR g wr) (fun _ wr => leastOf (fun g => DR g wr))
  case atStart => exact ⟨f.toNat, by rw [hDR]; exact ⟨[], p, 0, c1, c2, c3, h0, ⟨by simp, by simp⟩, rfl, by omega, by simp [Int.emod_one], p0, p1⟩⟩
  case round =>
    have hl := leastOf_spec hrel
    generalize hg0 : leastOf _ = g at *
    obtain ⟨hg, -⟩ := hl
    clear hrel c1 c2 c3 h0 p0 p1
    rw [hDR] at hg
    obtain ⟨pre, p, i, c1, c2, c3, hj, hd, hi, hig, hm, p0, p1⟩ := hg
    have P32 : (2 : Int) ^ f.toNat ≤ 4294967296 := Int.le_trans (pow_mono' (show (1 : Int) ≤ 2 by omega) (show f.toNat ≤ 32 by omega)) (by decide)
    rcases Int.lt_or_le 0 p with hp | hp
    · have g1 : 1 ≤ g := by
        rcases Nat.eq_zero_or_pos g with h | h
        · have e : i = f.toNat := by omega
          rw [e, Int.emod_eq_of_lt p0 p1] at hm
          omega
        · exact h
      have FD := Lib.hid (hd.snoc (d := 48 + p * 10 / 2 ^ f.toNat) (by omega))
      have WB := Lib.hid (low_bits (x := p * 10) (f := f) (by omega) (by omega) (by omega))
      have MZ := Lib.hid (more_zeros (f := f.toNat) hm (by omega))
      have M0 := Lib.hid (Int.emod_nonneg (p * 10) (show (2 : Int) ^ f.toNat ≠ 0 by have := pow_pos' f.toNat; omega))
      have M1 := Lib.hid (Int.emod_lt_of_pos (p * 10) (pow_pos' f.toNat))
      have HJ := Lib.hid hJ
      have w1 : IntKind.u64.wrap (p * 10) = p * 10 := by rw [IntKind.wrap_u64]; omega
      have q1 : p * 10 / 2 ^ f.toNat ≤ 9 := by
        have : p * 10 / 2 ^ f.toNat < 10 := Int.ediv_lt_of_lt_mul (pow_pos' _) (by omega)
        omega
      have q0 : 0 ≤ p * 10 / 2 ^ f.toNat := Int.ediv_nonneg (by omega) (Int.le_of_lt (pow_pos' _))
      obtain ⟨d, hdd⟩ : ∃ d, p * 10 / 2 ^ f.toNat = d := ⟨_, rfl⟩
      rw [hdd] at q0 q1 FD
      have FD := Lib.hid (FD.out (by omega) (by omega))
      have w2 : IntKind.u64.wrap (48 + d) = 48 + d := by rw [IntKind.wrap_u64]; omega
      have w3 : IntKind.u8.wrap (48 + d) = 48 + d := by rw [IntKind.wrap_u8]; omega
      have hj2 := hJ pre wr _ hj (grow_own wr Bp (.int .u64 (p * 10)))
      obtain ⟨fn, tmps, assign, body, hy, hR⟩ := hY pre (48 + d) _ FD.out hj2
      have HM := Lib.hid hm
      have P1 := Lib.hid p1
      have P32' := Lib.hid P32
      clear hm p1 P32 hj hJ hY
      gi_wp2
      refine hR.mono ?_
      rintro e W3 (⟨rfl, hJ3, hk3⟩ | ⟨rfl, hJx3⟩)
      · obtain ⟨k1, k2, k3, -⟩ := hk3.cell 0
        simp [go_sem, *] at k1 k2 k3
        clear c1 c2 c3 hk3 hR hy
        gi_wp2
        gi_region
        rw [WB.out]
        have hnew : DR (g - 1) (World.drew (W3.setCell ⟨Bp, 0, none⟩ (.int .u64 (p * 10 % 2 ^ f.toNat)))) := by
          rw [hDR]
          exact ⟨pre ++ [48 + d], p * 10 % 2 ^ f.toNat, i + 1, by simp [go_sem, *], by simp [go_sem, *], by simp [go_sem, *], HJ.out _ _ _ (HJ.out _ _ _ hJ3 (grow_own _ _ _)) (grow_drew _ _), FD.out, by simp; omega, by omega, MZ.out, M0.out, M1.out⟩
        have hle := (leastOf_spec (p := fun g => DR g (World.drew (W3.setCell ⟨Bp, 0, none⟩ (.int .u64 (p * 10 % 2 ^ f.toNat))))) ⟨_, hnew⟩).2 _ hnew
        clear hdd
        gi_wp2
        go_roundw
        case rel => exact ⟨_, hnew⟩
        case measure => exact Nat.lt_of_le_of_lt hle (by omega)
      · gi_wp2
        refine bodyPost_ret (results_none rfl _ _ _) rfl ?_
        exact ⟨⟨_, rfl⟩, .inr ⟨_, FD.out, hJx3⟩⟩
    · obtain rfl : p = 0 := by omega
      gi_wp2
      go_end0
      exact ⟨⟨_, rfl⟩, .inl ⟨pre, hd, hj⟩⟩
end Go.Proofs.Ytielcbpjnjdlmaa
