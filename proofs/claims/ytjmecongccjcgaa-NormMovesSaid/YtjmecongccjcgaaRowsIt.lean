/- soft.Rows: what its iterator promises. -/
import Derived.Test.YtjmecongccjcgaaKept
import Derived.Deep.LoopGhost
namespace Go.Proofs.Ytjmecongccjcgaa
open Go.RowKit Go.Shelf
attribute [local go_sem] Oper.semAt_some
/-- What came of rows: their numbers from 0 on. -/
def RowsPre (m : Nat) (pre : List Nat) : Prop := pre = List.range pre.length ∧ pre.length ≤ m
theorem RowsPre.snoc {m : Nat} {pre : List Nat} (h : RowsPre m pre) (hl : pre.length < m) : RowsPre m (pre ++ [pre.length]) := by
  refine ⟨?_, by simp; omega⟩
  rw [List.length_append, List.length_singleton, List.range_succ, ← h.1]
theorem RowsPre.last {m : Nat} {pre : List Nat} {x : Nat} (h : RowsPre m (pre ++ [x])) : x = pre.length ∧ pre.length < m := by
  obtain ⟨h1, h2⟩ := h
  rw [List.length_append, List.length_singleton] at h1 h2
  rw [List.range_succ] at h1
  have := List.append_inj_right' h1 rfl
  exact ⟨by simpa using this, by omega⟩
theorem softRows_any (a : Option Addr) (n c : Nat) (b : Option Addr) (m k : Nat) (w : World) :
    Calls Try.prog 50 #[.agg #[.slice a n c, .slice b m k]] w fun e w' => e = .returned (.func (.func 79) #[] #[.pointer (some ⟨w.heap.size, 0, none⟩)]) ∧ w' = w.alloc (.cells #[.slice a n c, .slice b m k] 26) := by
  go_enter Try.func50, Try.ntmps50
  go_wp2
  go_ret
  exact ⟨rfl, rfl⟩
set_option maxHeartbeats 1000000 in
set_option maxRecDepth 100000 in
theorem rows_iter (d : Nat) (hd : 1 ≤ d) (B sb so sn sc db dO dn dc m n : Nat) (w0 w : World) (hsh : w0.cell? ⟨sb, so + (sn - 1), none⟩ = some (.int .i64 n)) (sn0 : 0 < sn) (sn1 : sn ≤ 1000) (n0 : 0 < n) (hdn : dn = m * n) (dn1 : dn ≤ 1000000) (hdc : dn ≤ dc) (ho : OldAs w0 w)
    (hB : Blk w B 26 #[.slice (some ⟨sb, so, none⟩) sn sc, .slice (some ⟨db, dO, none⟩) dn dc]) :
    Iter Fence.wide d Try.prog 79 #[.pointer (some ⟨B, 0, none⟩)] (fun j : Nat => #[.int .i64 ((j * n : Nat) : Int), .slice (some ⟨db, dO + j * n, none⟩) n n]) (KeptD w0 B) (RowsPre m) (fun xs => xs = List.range m) m B w := by
  intro l J Jx W hK hJ hJx hY hN hj0
  have hb : Blk W B 26 #[.slice (some ⟨sb, so, none⟩) sn sc, .slice (some ⟨db, dO, none⟩) dn dc] := hK.2.1.trans hB
  have hlt := cell_lt hsh
  have hc : W.cell? ⟨sb, so + (sn - 1), none⟩ = some (.int .i64 n) := by
    rw [World.cell?_of_block (a := ⟨sb, so + (sn - 1), none⟩) ((hK.2.2 sb hlt).trans (ho sb hlt))]; exact hsh
  clear hK ho hB hN hsh hlt
  have HJ := Lib.hid hJ
  have HY := Lib.hid hY
  have HBx := Lib.hid hJx
  have HJ0 := Lib.hid hj0
  clear hJ hY hJx hj0
  have k0 := (hb.cell 0).trans (show (#[.slice (some ⟨sb, so, none⟩) sn sc, .slice (some ⟨db, dO, none⟩) dn dc] : Array Value)[0]? = some (.slice (some ⟨sb, so, none⟩) sn sc) from rfl)
  have ws : IntKind.i64.wrap ((sn : Int) - 1) = ((sn - 1 : Nat) : Int) := by rw [IntKind.wrap_i64]; omega
  have hB := Lib.hid hb
  clear hb
  refine callsIn_of_wp Try.func79 rfl trivial ?_ rfl
  simp only [Try.ntmps79, List.size_toArray, List.length_cons, List.length_nil, Nat.reduceAdd, Nat.reduceSub, Array.replicate_succ, Array.replicate_zero, List.push_toArray, List.append_toArray, List.nil_append, List.cons_append]
  gi_wp2
  clear ws k0 hc
  have HDN := Lib.hid hdn
  clear hdn
  gi_loopw [4] (fun i wr => ∃ pre : List Nat, i = .int .i64 ((pre.length * n : Nat) : Int) ∧ Blk wr B 26 #[.slice (some ⟨sb, so, none⟩) sn sc, .slice (some ⟨db, dO, none⟩) dn dc] ∧ J pre wr ∧ RowsPre m pre) (fun i _ => dn + 1 - (intOf i).toNat)
  case atStart => exact ⟨[], by simp, hB.out, HJ0.out, ⟨rfl, Nat.zero_le _⟩⟩
  case round =>
    clear hB HJ0
    obtain ⟨pre, rfl, hb, hj, hp⟩ := hrel
    obtain ⟨A, hA⟩ : ∃ A, pre.length * n = A := ⟨_, rfl⟩
    rw [hA]
    have k1 := (hb.cell 1).trans (show (#[.slice (some ⟨sb, so, none⟩) sn sc, .slice (some ⟨db, dO, none⟩) dn dc] : Array Value)[1]? = some (.slice (some ⟨db, dO, none⟩) dn dc) from rfl)
    have HB := Lib.hid hb
    have HP := Lib.hid hp
    rcases Nat.lt_or_ge pre.length m with hlt | hge
    · have hAn : A + n ≤ dn := by
        have := Nat.mul_le_mul_right n (show pre.length + 1 ≤ m by omega)
        rw [Nat.add_mul] at this
        have := HDN.out; omega
      have ws : IntKind.i64.wrap ((A : Int) + (n : Int)) = ((A + n : Nat) : Int) := by rw [IntKind.wrap_i64]; omega
      have hyy := HY.out pre pre.length wr (hp.snoc hlt) hj
      rw [hA] at hyy
      obtain ⟨fn, tmps, assign, body, hy, hR⟩ := hyy
      have HR := Lib.hid hR
      have HAA := Lib.hid hA
      have hA1 : (A : Int) < (dn : Int) := by omega
      have hA2 : ((A + n : Nat) : Int) ≤ (dc : Int) := by omega
      clear hb hp hj hR hA
      gi_wp2
      refine HR.out.mono ?_
      rintro e W3 (⟨rfl, hJ3, hk3⟩ | ⟨rfl, hJx3⟩)
      · have hb3 : Blk W3 B 26 #[.slice (some ⟨sb, so, none⟩) sn sc, .slice (some ⟨db, dO, none⟩) dn dc] := hk3.2.1.trans HB.out
        have HNEW : Hid (∃ pre : List Nat, Value.int .i64 ((A + n : Nat) : Int) = .int .i64 ((pre.length * n : Nat) : Int) ∧ Blk W3 B 26 #[.slice (some ⟨sb, so, none⟩) sn sc, .slice (some ⟨db, dO, none⟩) dn dc] ∧ J pre W3 ∧ RowsPre m pre) := Lib.hid ⟨pre ++ [pre.length], by rw [List.length_append, List.length_singleton, Nat.add_mul, HAA.out, Nat.one_mul], hb3, hJ3, HP.out.snoc hlt⟩
        clear HR hy hk3 hJ3 hb3
        gi_wp2
        go_roundw
        case rel => exact HNEW.out
        case measure => simp [intOf]; omega
      · gi_wp2
        refine bodyPost_ret (results_none rfl _ _ _) rfl ?_
        exact ⟨⟨_, rfl⟩, .inr ⟨_, HP.out.snoc hlt, hJx3⟩⟩
    · have e : A = dn := by
        have := hp.2
        have e2 : pre.length = m := by omega
        rw [← hA, e2, HDN.out]
      subst e
      have HJ1 := Lib.hid hj
      clear hb hp hj hA
      gi_wp2
      refine bodyPost_end (results_none rfl _ _ _) rfl ?_
      refine ⟨⟨_, rfl⟩, .inl ⟨pre, ?_, HJ1.out⟩⟩
      have h := HP.out.1
      rw [show pre.length = m by have := HP.out.2; omega] at h
      exact h
end Go.Proofs.Ytjmecongccjcgaa
