/- The document's generator: Next, Below. The document's Mask, Shuffle. -/
import Derived.Test.YtkegefnpmijfiaaGreatQGens
import Derived.Test.YtkegefnpmijfiaaGreatQClonesG
import Derived.Test.YtkegefnpmijfiaaGreatQMask
import Derived.Test.YtkegefnpmijfiaaGreatQNewS
import Derived.Test.YtkegefnpmijfiaaGreatQAskS
import Derived.Deep.LoopGhost
import Derived.BigRegion
import Derived.Deep.DeepCutAuto
namespace Go.Proofs.YtkegefnpmijfiaaGreat
open Go.RowKit
attribute [local go_sem ↓] Go.wp_at_zero Go.wp_at_succ
theorem turn7_any (x : BitVec 64) (w : World) : Calls Tryz.prog 251 #[.int .u64 (iv x), .int .u64 7] w fun e w' => e = .returned (.int .u64 (iv (rol x 7))) ∧ w = w' := by
  have h0 := iv_nn x
  have h1 := iv_lt x
  have R := iv_rol7 x
  go_enter Tryz.func251, Tryz.ntmps251
  go_wp2
  go_ret
  exact ⟨rfl, rfl⟩
theorem turn45_any (x : BitVec 64) (w : World) : Calls Tryz.prog 251 #[.int .u64 (iv x), .int .u64 45] w fun e w' => e = .returned (.int .u64 (iv (rol x 45))) ∧ w = w' := by
  have h0 := iv_nn x
  have h1 := iv_lt x
  have R := iv_rol45 x
  go_enter Tryz.func251, Tryz.ntmps251
  go_wp2
  go_ret
  exact ⟨rfl, rfl⟩
set_option maxHeartbeats 2000000 in
set_option maxRecDepth 100000 in
theorem next_script {v : Value} {g : Gen} {x : Int} {r : List Int} {w0 w : World} (h : RandAt w0 v g) (ho : OldAs w0 w) (hs : g.script = x :: r) :
    Calls Tryz.prog 198 #[v] w fun e w' => ∃ v', e = .returned (.tuple #[.int .u64 x, v']) ∧ Ext w w' ∧ RandAt w0 v' ⟨r, g.st⟩ := by
  obtain ⟨a, c, rfl, hr⟩ := h
  obtain ⟨sc, st⟩ := g
  simp only at hs hr
  subst hs
  simp only [List.length_cons] at hr ⊢
  have hr2 := hr
  obtain ⟨a', c', e, h1, h2, h3⟩ := hr
  obtain ⟨b, o, e2, hcell⟩ := h3 (by simp)
  cases e
  cases e2
  have h0 := hcell 0 (by simp)
  rw [← World.cell?_of_block (ho _ (cell_lt h0))] at h0
  simp only [List.getD_cons_zero, Nat.add_zero, List.length_cons] at h0 h1
  unfold maxLen at h2
  have hb := cell_lt h0
  simp only at hb
  clear h3 hcell ho
  rcases Nat.lt_or_ge 1 c with hc | hc
  · have RT := Lib.hid (row_tail hr2 hc)
    clear hr2
    have hc1 : (1 : Int) ≤ (c : Int) := by omega
    have hc2 : (0 : Int) < (c : Int) := by omega
    have hc3 : (c == 1) = false := by simp; omega
    have hn1 : (1 : Int) ≤ ((r.length + 1 : Nat) : Int) := by omega
    generalize hm : r.length = m at *
    go_enter Tryz.func198, Tryz.ntmps198
    go_wp2_with fail
    go_region
    go_wp2
    simp [bodyPost, results, Tryz.results198, go_sem, *]
    subst hm
    exact ⟨Ext.q, _, _, rfl, RT.out⟩
  · obtain rfl : c = 1 := by omega
    obtain rfl : r = [] := List.length_eq_zero_iff.1 (by omega)
    clear hr2
    go_enter Tryz.func198, Tryz.ntmps198
    go_wp2_with fail
    go_region
    go_wp2
    simp [bodyPost, results, Tryz.results198, go_sem, *]
    exact ⟨Ext.q, _, _, rfl, ⟨_, _, rfl, by simp, by unfold maxLen; omega, fun h => absurd rfl h⟩⟩
set_option maxHeartbeats 1000000 in
set_option maxRecDepth 100000 in
theorem next_state {v : Value} {g : Gen} {w0 w : World} (h : RandAt w0 v g) (hs : g.script = []) :
    Calls Tryz.prog 198 #[v] w fun e w' => ∃ v', e = .returned (.tuple #[.int .u64 (iv g.st.out), v']) ∧ Ext w w' ∧ RandAt w0 v' ⟨[], g.st.next⟩ := by
  obtain ⟨a, c, rfl, hr⟩ := h
  obtain ⟨sc, st⟩ := g
  simp only at hs hr
  subst hs
  simp only [List.length_nil] at hr ⊢
  have HR := Lib.hid hr
  obtain ⟨A, B, C, D⟩ := st
  have m5 := iv_mul5 B
  have hout : St.out ⟨A, B, C, D⟩ = rol (B * 5) 7 * 9 := rfl
  have hnext : St.next ⟨A, B, C, D⟩ = ⟨A ^^^ (D ^^^ B), B ^^^ (C ^^^ A), C ^^^ A ^^^ B <<< 17, rol (D ^^^ B) 45⟩ := rfl
  have R1 := fun v => turn7_any (B * 5) v
  have m9 := iv_mul9 (rol (B * 5) 7)
  rw [hout, hnext]
  clear hout hnext
  generalize rol (B * 5) 7 * 9 = Q at m9 ⊢
  generalize rol (B * 5) 7 = Y at m9 R1
  generalize B * 5 = Z at m5 R1
  have R1 := Lib.hid R1
  have sh := iv_shl17 B
  have b0 := iv_nn B
  have b1 := iv_lt B
  have X1 := iv_xor C A
  have X2 := iv_xor D B
  have X3 := iv_xor B (C ^^^ A)
  have X4 := iv_xor A (D ^^^ B)
  have X5 := iv_xor (C ^^^ A) (B <<< 17)
  have R2 := fun v => turn45_any (D ^^^ B) v
  generalize C ^^^ A ^^^ B <<< 17 = C2 at X5 ⊢
  generalize A ^^^ (D ^^^ B) = A2 at X4 ⊢
  generalize B ^^^ (C ^^^ A) = B2 at X3 ⊢
  generalize C ^^^ A = C1 at X1 X3 X5
  generalize rol (D ^^^ B) 45 = D2 at R2 ⊢
  generalize D ^^^ B = D1 at X2 X4 R2
  generalize B <<< 17 = T at sh X5
  have R2 := Lib.hid R2
  clear hr
  go_enter Tryz.func198, Tryz.ntmps198
  go_wp2_with fail; refine (R1.out _).mono ?_; rintro e w' ⟨rfl, rfl⟩
  go_wp2_with fail; refine (R2.out _).mono ?_; rintro e w' ⟨rfl, rfl⟩
  go_wp2_with fail
  go_region
  go_wp2
  simp [bodyPost, results, Tryz.results198, go_sem, *]
  exact ⟨Ext.q, _, _, rfl, ⟨_, _, rfl, by simp, by unfold maxLen; omega, fun h => absurd rfl h⟩⟩
theorem next_ref {v : Value} {g : Gen} {w0 w : World} (h : RandAt w0 v g) (ho : OldAs w0 w) :
    Calls Tryz.prog 198 #[v] w fun e w' => ∃ v', e = .returned (.tuple #[.int .u64 g.step.1, v']) ∧ Ext w w' ∧ RandAt w0 v' g.step.2 := by
  obtain ⟨sc, st⟩ := g
  cases sc with
  | nil => exact next_state h rfl
  | cons x r => exact next_script h ho rfl
set_option maxHeartbeats 4000000 in
set_option maxRecDepth 100000 in
theorem below_ref {n : Int} {g : Gen} {v : Value} {w0 w : World} (h : RandAt w0 v g) (ho : OldAs w0 w) (hf : g.Fine) (hn : Few n) :
    Calls Tryz.prog 131 #[v, .int .u64 n] w fun e w' => ∃ v', e = .returned (.tuple #[.int .u64 (g.below n), v']) ∧ Ext w w' ∧ RandAt w0 v' (g.past n) := by
  have n0 := hn.1
  have n1 := hn.2
  have bd := left64_bd n0
  have le := left64_eq n
  have HN := Lib.hid (fun k hk => few_bound hf hn k hk)
  have VN := Lib.hid (fun k => Gen.val_nn hf k)
  have HO := Lib.hid ho
  have HR := Lib.hid h
  have NX : Hid (∀ (W : World) (V : Value) (G : Gen), RandAt w0 V G → Ext w W → Calls Tryz.prog 198 #[V] W fun e w' => ∃ a m c p q r s, e = .returned (.tuple #[.int .u64 G.step.1, .agg #[.slice a m c, .int .u64 p, .int .u64 q, .int .u64 r, .int .u64 s]]) ∧ Ext W w' ∧ Hid (RandAt w0 (.agg #[.slice a m c, .int .u64 p, .int .u64 q, .int .u64 r, .int .u64 s]) G.step.2)) := Lib.hid fun W V G hV x => (next_ref hV (HO.out.ext x)).mono (by
    rintro e w' ⟨v', rfl, x, h⟩
    obtain ⟨a, m, c, p, q, r, s, rfl, -⟩ := h.form
    exact ⟨a, m, c, p, q, r, s, rfl, x, Lib.hid h⟩)
  obtain ⟨a, m, c, p, q, r, s, rfl, -⟩ := h.form
  clear h ho hn
  obtain ⟨A, hA, A0, A1⟩ : ∃ A, 18446744073709551615 % n = A ∧ 0 ≤ A ∧ A < n := ⟨_, rfl, Int.emod_nonneg _ (by omega), Int.emod_lt_of_pos _ n0⟩
  rw [hA] at le
  have wA : IntKind.u64.wrap (A + 1) = A + 1 := by rw [IntKind.wrap_u64]; omega
  have tm : (18446744073709551615 : Int).tmod n = A := by rw [Int.tmod_eq_emod_of_nonneg (by decide)]; exact hA
  have zn : (n == 0) = false := by simp; omega
  obtain ⟨L, hL⟩ : ∃ L, left64 n = L := ⟨_, rfl⟩
  rw [hL] at le bd
  have HL := Lib.hid hL
  clear hA hL
  go_enter Tryz.func131, Tryz.ntmps131
  go_upto_if 13 with fail
  go_cut [6] (fun s6 wx => s6 = .int .u64 L ∧ wx = ((w.alloc (.cells #[.slice a m c, .int .u64 p, .int .u64 q, .int .u64 r, .int .u64 s] 62)).alloc (.cells #[.slice none 0 0, .int .u64 0, .int .u64 0, .int .u64 0, .int .u64 0] 62)))
  case first =>
    by_cases hAn : A + 1 = n
    · have e0 : (A + 1 == n) = true := by simp [hAn]
      have L0 : (0 : Int) = L := by rw [← le, hAn, Int.emod_self]
      have HL0 := Lib.hid L0
      clear le hAn bd L0
      go_wp2_with fail
      go_meet
      exact ⟨by rw [HL0.out], rfl⟩
    · have e0 : (A + 1 == n) = false := by simp [hAn]
      have L0 : A + 1 = L := by rw [← le, Int.emod_eq_of_lt (by omega) (by omega)]
      have HL0 := Lib.hid L0
      clear le hAn bd L0
      go_wp2_with fail
      go_meet
      exact ⟨by rw [HL0.out], rfl⟩
  case rest =>
    obtain ⟨rfl, rfl⟩ := hcut
    have B0 := Lib.hid ((Blk.new w 62 (rv a m c p q r s)).alloc (.cells (rv none 0 0 0 0 0 0) 62))
    have B1 := Lib.hid (show Blk _ (w.heap.size + 1) 62 (rv none 0 0 0 0 0 0) from by have := Blk.new (w.alloc (.cells (rv a m c p q r s) 62)) 62 (rv none 0 0 0 0 0 0); simpa using this)
    have xw : Ext w ((w.alloc (.cells (rv a m c p q r s) 62)).alloc (.cells (rv none 0 0 0 0 0 0) 62)) := Ext.q
    clear le tm wA zn A0 A1
    obtain ⟨M, hM⟩ : ∃ M, IntKind.u64.wrap (0 - L) = M := ⟨_, rfl⟩
    have HM := Lib.hid hM
    obtain ⟨NN, hNN⟩ : ∃ NN, g.script.length + mostDraws = NN := ⟨_, rfl⟩
    rw [hNN] at HN
    clear hM hNN
    go_wp2_with fail
    go_loopg [7] NN (fun gh xv wr => ∃ (k : Nat) (a : Option Addr) (m c : Nat) (p q r s : Int), gh = NN - k ∧ k ≤ NN ∧ (∀ j, j < k → Refused n (g.val j)) ∧ Blk wr w.heap.size 62 (rv a m c p q r s) ∧ Blk wr (w.heap.size + 1) 62 (rv none 0 0 0 0 0 0) ∧ RandAt w0 (.agg (rv a m c p q r s)) (g.after k) ∧ Ext w wr)
    case atStart => exact ⟨0, a, m, c, p, q, r, s, by simp, Nat.zero_le _, fun j hj => by omega, B0.out, B1.out, HR.out, xw⟩
    case round =>
      clear B0 B1 HR xw
      obtain ⟨k, a, m, c, p, q, r, s, hgh, hkN, href, b0, b1, hr, hext⟩ := hrel
      have ST := Lib.hid (NX.out wr _ _ hr hext)
      have HX0 := Lib.hid (show (g.after k).step.1 = g.val k from rfl)
      have x0 := VN.out k
      generalize hXX : (g.after k).step.1 = X at *
      have hX2 : g.val k = X := HX0.out.symm
      rw [hX2] at x0
      have HREF := Lib.hid href
      have HGH := Lib.hid hgh
      have B0 := Lib.hid b0
      have B1 := Lib.hid b1
      have zk0 := (B0.out.cell 0).trans (show (rv a m c p q r s)[0]? = some (.slice a m c) from rfl)
      have zk1 := (B0.out.cell 1).trans (show (rv a m c p q r s)[1]? = some (.int .u64 p) from rfl)
      have zk2 := (B0.out.cell 2).trans (show (rv a m c p q r s)[2]? = some (.int .u64 q) from rfl)
      have zk3 := (B0.out.cell 3).trans (show (rv a m c p q r s)[3]? = some (.int .u64 r) from rfl)
      have zk4 := (B0.out.cell 4).trans (show (rv a m c p q r s)[4]? = some (.int .u64 s) from rfl)
      have zf0 := B0.out.frozen 0
      have zf1 := B0.out.frozen 1
      have zf2 := B0.out.frozen 2
      have zf3 := B0.out.frozen 3
      have zf4 := B0.out.frozen 4
      have lt0 := b0.lt
      have lt1 := b1.lt
      have RI : Hid (Refused n X ↔ L ≠ 0 ∧ M ≤ X) := Lib.hid (by
        unfold Refused
        rw [HL.out, ← HM.out, IntKind.wrap_u64]
        constructor <;> (rintro ⟨h1, h2⟩; refine ⟨h1, ?_⟩; omega))
      have hw : IntKind.u64.wrap (0 - L) = M := HM.out
      have hw2 : IntKind.u64.wrap (-L) = M := by rw [← HM.out]; congr 1; omega
      clear hXX href hgh b0 b1 hr
      go_wp2_with fail
      refine (ST.out).mono ?_; rintro e v2 ⟨a2, m2, d2, p2, q2, r2, s2, rfl, x2, h2⟩; obtain ⟨c2, f2⟩ := x2.rules; have z2 := x2.size
      have yk0 := ((B0.out.ext x2).cell 0).trans (show (rv a m c p q r s)[0]? = some (.slice a m c) from rfl)
      have yk1 := ((B0.out.ext x2).cell 1).trans (show (rv a m c p q r s)[1]? = some (.int .u64 p) from rfl)
      have yk2 := ((B0.out.ext x2).cell 2).trans (show (rv a m c p q r s)[2]? = some (.int .u64 q) from rfl)
      have yk3 := ((B0.out.ext x2).cell 3).trans (show (rv a m c p q r s)[3]? = some (.int .u64 r) from rfl)
      have yk4 := ((B0.out.ext x2).cell 4).trans (show (rv a m c p q r s)[4]? = some (.int .u64 s) from rfl)
      have yf0 := (B0.out.ext x2).frozen 0
      have yf1 := (B0.out.ext x2).frozen 1
      have yf2 := (B0.out.ext x2).frozen 2
      have yf3 := (B0.out.ext x2).frozen 3
      have yf4 := (B0.out.ext x2).frozen 4
      have BX := Lib.hid (((((((B0.out.ext x2).set_ 0 (.slice a2 m2 d2)).set_ 1 (.int .u64 p2)).set_ 2 (.int .u64 q2)).set_ 3 (.int .u64 r2)).set_ 4 (.int .u64 s2)))
      have BY := Lib.hid ((((((B1.out.ext x2).far (p := ⟨w.heap.size, 0, none⟩) (by simp) (.slice a2 m2 d2)).far (p := ⟨w.heap.size, 1, none⟩) (by simp) (.int .u64 p2)).far (p := ⟨w.heap.size, 2, none⟩) (by simp) (.int .u64 q2)).far (p := ⟨w.heap.size, 3, none⟩) (by simp) (.int .u64 r2)).far (p := ⟨w.heap.size, 4, none⟩) (by simp) (.int .u64 s2))
      have XE := Lib.hid (own_ext5 (hext.tr x2) (Nat.le_refl _) (.slice a2 m2 d2) (.int .u64 p2) (.int .u64 q2) (.int .u64 r2) (.int .u64 s2))
      have hz2 := x2.size
      have B1v := Lib.hid (B1.out.ext x2)
      clear B0 ST c2 f2 x2 hext
      by_cases hRf : L ≠ 0 ∧ M ≤ X
      · have t1 : (L == 0) = false := by simp [hRf.1]
        have t2 : decide (X < M) = false := by simp [hRf.2]
        have hk1 : k + 1 ≤ NN := HN.out (k + 1) (fun j hj => by
          rcases Nat.lt_succ_iff_lt_or_eq.1 hj with h | rfl
          · exact HREF.out j h
          · rw [hX2]; exact RI.out.2 hRf)
        have HR1 := Lib.hid (show ∀ j, j < k + 1 → Refused n (g.val j) from fun j hj => by
          rcases Nat.lt_succ_iff_lt_or_eq.1 hj with h | rfl
          · exact HREF.out j h
          · rw [hX2]; exact RI.out.2 hRf)
        clear hRf RI HREF
        go_wp2_with fail
        go_roundg (NN - (k + 1))
        case rel => exact ⟨k + 1, a2, m2, d2, p2, q2, r2, s2, rfl, hk1, HR1.out, BX.out, BY.out, h2.out, XE.out⟩
        case measure => rw [HGH.out]; omega
      · have NR : Hid (¬ Refused n (g.val k)) := Lib.hid (by rw [hX2]; exact fun h => hRf (RI.out.1 h))
        have hnz : (n == 0) = false := by simp; omega
        obtain ⟨Y, hY⟩ : ∃ Y, X.tmod n = Y := ⟨_, rfl⟩
        have HY := Lib.hid (show g.below n = Y by rw [Gen.below, taken_eq HREF.out NR.out, hX2, ← hY, Int.tmod_eq_emod_of_nonneg x0])
        have HP := Lib.hid (show g.past n = (g.after k).step.2 by rw [Gen.past, taken_eq HREF.out NR.out]; rfl)
        have HE := Lib.hid (show X % n = Y by rw [← hY, Int.tmod_eq_emod_of_nonneg x0])
        generalize (g.after k).step.2 = G2 at *
        by_cases hL0 : L = 0
        · have t1 : (L == 0) = true := by simp [hL0]
          clear hL0 hRf
          have j0 := (B1v.out.cell 0).trans (show (rv none 0 0 0 0 0 0)[0]? = some (.slice none 0 0) from rfl)
          have jf0 := B1v.out.frozen 0
          have j1 := (B1v.out.cell 1).trans (show (rv none 0 0 0 0 0 0)[1]? = some (.int .u64 0) from rfl)
          have jf1 := B1v.out.frozen 1
          have j2 := (B1v.out.cell 2).trans (show (rv none 0 0 0 0 0 0)[2]? = some (.int .u64 0) from rfl)
          have jf2 := B1v.out.frozen 2
          have j3 := (B1v.out.cell 3).trans (show (rv none 0 0 0 0 0 0)[3]? = some (.int .u64 0) from rfl)
          have jf3 := B1v.out.frozen 3
          have j4 := (B1v.out.cell 4).trans (show (rv none 0 0 0 0 0 0)[4]? = some (.int .u64 0) from rfl)
          have jf4 := B1v.out.frozen 4
          clear B1 BX BY NX HN VN HO RI HL HREF NR HGH HX0
          go_wp2_with fail
          go_region
          all_goals
            go_wp2
            simp [bodyPost, results, Tryz.results131, go_sem, *]
            rw [HP.out]
            exact ⟨_, ⟨HY.out.symm, rfl⟩, Ext.drew (own_ext5 XE.out (by omega) _ _ _ _ _), h2.out⟩
        · have t1 : (L == 0) = false := by simpa using hL0
          have t2 : decide (X < M) = true := by
            have : ¬ M ≤ X := fun h => hRf ⟨hL0, h⟩
            simp; omega
          clear hL0 hRf
          have j0 := (B1v.out.cell 0).trans (show (rv none 0 0 0 0 0 0)[0]? = some (.slice none 0 0) from rfl)
          have jf0 := B1v.out.frozen 0
          have j1 := (B1v.out.cell 1).trans (show (rv none 0 0 0 0 0 0)[1]? = some (.int .u64 0) from rfl)
          have jf1 := B1v.out.frozen 1
          have j2 := (B1v.out.cell 2).trans (show (rv none 0 0 0 0 0 0)[2]? = some (.int .u64 0) from rfl)
          have jf2 := B1v.out.frozen 2
          have j3 := (B1v.out.cell 3).trans (show (rv none 0 0 0 0 0 0)[3]? = some (.int .u64 0) from rfl)
          have jf3 := B1v.out.frozen 3
          have j4 := (B1v.out.cell 4).trans (show (rv none 0 0 0 0 0 0)[4]? = some (.int .u64 0) from rfl)
          have jf4 := B1v.out.frozen 4
          clear B1 BX BY NX HN VN HO RI HL HREF NR HGH HX0
          go_wp2_with fail
          go_region
          all_goals
            go_wp2
            simp [bodyPost, results, Tryz.results131, go_sem, *]
            rw [HP.out]
            exact ⟨_, ⟨HY.out.symm, rfl⟩, Ext.drew (own_ext5 XE.out (by omega) _ _ _ _ _), h2.out⟩
end Go.Proofs.YtkegefnpmijfiaaGreat
namespace Go.Proofs.YtkegefnpmijfiaaGreat
open Go.RowKit
attribute [local go_sem ↓] Go.wp_at_zero Go.wp_at_succ
set_option maxHeartbeats 4000000 in
set_option maxRecDepth 100000 in
theorem mask_ref {n : Nat} {q : Int} {g : Gen} {v : Value} {w0 w : World} (h : RandAt w0 v g) (ho : OldAs w0 w) (hf : g.Fine) (n2 : n ≤ 65536) :
    Calls Tryz.prog 49 #[v, .int .i64 n, .int .i64 q] w fun e w' => ∃ oa oc a m c p t r s, e = .returned (.tuple #[.slice oa n oc, .agg #[.slice a m c, .int .u64 p, .int .u64 t, .int .u64 r, .int .u64 s]]) ∧ Ext w w' ∧ Hid (w'.ownsRow (w.heap.size + 1 + 1) 3 1 (.slice oa n oc) n ((masks q n [] g).1.map (Value.int .i64))) ∧ Hid (RandAt w0 (.agg #[.slice a m c, .int .u64 p, .int .u64 t, .int .u64 r, .int .u64 s]) (masks q n [] g).2) := by
  have HO9 := Lib.hid ho
  clear ho
  have BL : Hid (∀ (W : World) (V : Value) (G : Gen) (M : Int), RandAt w0 V G → G.Fine → Few M → Ext w W → Calls Tryz.prog 131 #[V, .int .u64 M] W fun e w' => ∃ a m c p t r s, e = .returned (.tuple #[.int .u64 (G.below M), .agg #[.slice a m c, .int .u64 p, .int .u64 t, .int .u64 r, .int .u64 s]]) ∧ Ext W w' ∧ Hid (RandAt w0 (.agg #[.slice a m c, .int .u64 p, .int .u64 t, .int .u64 r, .int .u64 s]) (G.past M))) := Lib.hid fun W V G M hv hG hM x => (below_ref hv (HO9.out.ext x) hG hM).mono (by
    rintro e w' ⟨v', rfl, x, h⟩
    obtain ⟨a, m, c, p, q, r, s, rfl, -⟩ := h.form
    exact ⟨a, m, c, p, q, r, s, rfl, x, Lib.hid h⟩)
  obtain ⟨i0, hi0, hz0, hz1, hz2⟩ := info_parts infoI
  have HR := Lib.hid h
  have HF := Lib.hid hf
  obtain ⟨a, m, c, p, t, r, s, rfl, -⟩ := h.form
  clear h hf
  go_enter Tryz.func49, Tryz.ntmps49
  go_wp2_with fail
  go_loopw [8, 9] (fun lv iv wr => ∃ (k : Nat) (xs : List Int) (G : Gen) (a : Option Addr) (m c : Nat) (p t r s : Int) (lq : Value), lv = lq ∧ k ≤ n ∧ iv = .int .i64 k ∧ masks q k [] g = (xs, G) ∧ xs.length = k ∧ wr.ownsRow (w.heap.size + 1 + 1) 3 1 lq k (xs.map (Value.int .i64)) ∧ Blk wr w.heap.size 62 (rv a m c p t r s) ∧ Blk wr (w.heap.size + 1) 62 (rv none 0 0 0 0 0 0) ∧ RandAt w0 (.agg (rv a m c p t r s)) G ∧ G.Fine ∧ w.heap.size + 1 + 1 ≤ wr.heap.size ∧ Ext w wr) (fun _ iv _ => n - (intOf iv).toNat)
  case atStart => exact ⟨0, [], g, a, m, c, p, t, r, s, _, rfl, Nat.zero_le _, rfl, rfl, rfl, World.ownsRow_nil _ _ _ _, (Blk.new w _ _).alloc _, by have := Blk.new (w.alloc (.cells (rv a m c p t r s) 62)) 62 (rv none 0 0 0 0 0 0); simpa [rv] using this, HR.out, HF.out, by simp, Ext.q⟩
  case round =>
    clear HR HF
    obtain ⟨k, xs, G, a, m, c, p, t, r, s, lq, rfl, hk, rfl, hG, hlen, hown, b0, b1, hr, hFG, hVw, hext⟩ := hrel
    have HG := Lib.hid hG
    have HLEN := Lib.hid hlen
    have HOWN := Lib.hid hown
    have B0 := Lib.hid b0
    have B1 := Lib.hid b1
    obtain ⟨al, cl, rfl⟩ := own_sl hown
    have hrow : ∀ r, (Value.slice al k cl).ownBlock = some r → w.heap.size + 1 + 1 ≤ r := fun r hr => (hown.lt r hr).1
    by_cases hlt : k < n
    · have DR := Lib.hid (BL.out wr _ G 100 hr hFG few_100 hext)
      obtain ⟨X0, X1⟩ := G.below_bd (n := 100) (by decide)
      obtain ⟨X, hX⟩ : ∃ X, G.below 100 = X := ⟨_, rfl⟩
      obtain ⟨G2, hG2⟩ : ∃ G2, G.past 100 = G2 := ⟨_, rfl⟩
      have FG2 : Hid G2.Fine := Lib.hid (by rw [← hG2]; exact Gen.past_fine hFG _)
      rw [hX, hG2] at DR
      rw [hX] at X0 X1
      have HX := Lib.hid hX
      have HG2 := Lib.hid hG2
      have hkz : (k : Int) < (n : Int) := by omega
      have hn2 : k + 1 ≤ maxLen := by unfold maxLen; omega
      have hn3 : (k + 1) * 8 ≤ 140737488355328 := by omega
      have e5 : IntKind.i64.wrap X = X := wrap_i64 (by omega) (by omega)
      have zk0 := (b0.cell 0).trans (show (rv a m c p t r s)[0]? = some (.slice a m c) from rfl)
      have zk1 := (b0.cell 1).trans (show (rv a m c p t r s)[1]? = some (.int .u64 p) from rfl)
      have zk2 := (b0.cell 2).trans (show (rv a m c p t r s)[2]? = some (.int .u64 t) from rfl)
      have zk3 := (b0.cell 3).trans (show (rv a m c p t r s)[3]? = some (.int .u64 r) from rfl)
      have zk4 := (b0.cell 4).trans (show (rv a m c p t r s)[4]? = some (.int .u64 s) from rfl)
      have zf0 := b0.frozen 0
      have zf1 := b0.frozen 1
      have zf2 := b0.frozen 2
      have zf3 := b0.frozen 3
      have zf4 := b0.frozen 4
      clear hX hG2 hG hlen hown b0 b1 hr hFG
      go_wp2_with fail
      refine (DR.out).mono ?_; rintro e v2 ⟨a2, m2, d2, p2, t2, r2, s2, rfl, x2, h2⟩; obtain ⟨c2, f2⟩ := x2.rules; have z2 := x2.size
      have yk0 := ((B0.out.ext x2).cell 0).trans (show (rv a m c p t r s)[0]? = some (.slice a m c) from rfl)
      have yk1 := ((B0.out.ext x2).cell 1).trans (show (rv a m c p t r s)[1]? = some (.int .u64 p) from rfl)
      have yk2 := ((B0.out.ext x2).cell 2).trans (show (rv a m c p t r s)[2]? = some (.int .u64 t) from rfl)
      have yk3 := ((B0.out.ext x2).cell 3).trans (show (rv a m c p t r s)[3]? = some (.int .u64 r) from rfl)
      have yk4 := ((B0.out.ext x2).cell 4).trans (show (rv a m c p t r s)[4]? = some (.int .u64 s) from rfl)
      have yf0 := (B0.out.ext x2).frozen 0
      have yf1 := (B0.out.ext x2).frozen 1
      have yf2 := (B0.out.ext x2).frozen 2
      have yf3 := (B0.out.ext x2).frozen 3
      have yf4 := (B0.out.ext x2).frozen 4
      have BX := Lib.hid (((((((B0.out.ext x2).set_ 0 (.slice a2 m2 d2)).set_ 1 (.int .u64 p2)).set_ 2 (.int .u64 t2)).set_ 3 (.int .u64 r2)).set_ 4 (.int .u64 s2)))
      have BY := Lib.hid ((((((B1.out.ext x2).far (p := ⟨w.heap.size, 0, none⟩) (by simp) (.slice a2 m2 d2)).far (p := ⟨w.heap.size, 1, none⟩) (by simp) (.int .u64 p2)).far (p := ⟨w.heap.size, 2, none⟩) (by simp) (.int .u64 t2)).far (p := ⟨w.heap.size, 3, none⟩) (by simp) (.int .u64 r2)).far (p := ⟨w.heap.size, 4, none⟩) (by simp) (.int .u64 s2))
      have HW := Lib.hid (own_row5 (own_old HOWN.out x2) (b := w.heap.size) (by omega) (.slice a2 m2 d2) (.int .u64 p2) (.int .u64 t2) (.int .u64 r2) (.int .u64 s2))
      have XE := Lib.hid (own_ext5 (hext.tr x2) (Nat.le_refl _) (.slice a2 m2 d2) (.int .u64 p2) (.int .u64 t2) (.int .u64 r2) (.int .u64 s2))
      have hzW : w.heap.size + 1 + 1 ≤ (((((v2.setCell ⟨w.heap.size, 0, none⟩ (.slice a2 m2 d2)).setCell ⟨w.heap.size, 1, none⟩ (.int .u64 p2)).setCell ⟨w.heap.size, 2, none⟩ (.int .u64 t2)).setCell ⟨w.heap.size, 3, none⟩ (.int .u64 r2)).setCell ⟨w.heap.size, 4, none⟩ (.int .u64 s2)).heap.size := by have := x2.size; simp at this ⊢; omega
      clear B0 B1 HOWN c2 f2 x2 hext DR zk0 zk1 zk2 zk3 zk4 zf0 zf1 zf2 zf3 zf4
      go_upto_region 7 with fail
      generalize (((((v2.setCell ⟨w.heap.size, 0, none⟩ (.slice a2 m2 d2)).setCell ⟨w.heap.size, 1, none⟩ (.int .u64 p2)).setCell ⟨w.heap.size, 2, none⟩ (.int .u64 t2)).setCell ⟨w.heap.size, 3, none⟩ (.int .u64 r2)).setCell ⟨w.heap.size, 4, none⟩ (.int .u64 s2)) = W at *
      by_cases hq : q ≤ X
      · have d1 : decide (q ≤ X) = true := by simp; omega
        have NX := Lib.hid (show masks q (k + 1) [] g = (xs ++ [1], G2) by rw [masks_app, HG.out]; simp only [masks]; rw [HG2.out, HX.out, if_pos hq])
        go_wp2_with (at_builtin; refine (show Hid _ from ?_).out)
        refine Lib.hid ?_
        refine wpList_append_own _ rfl _ _ 23 rfl (w.heap.size + 1 + 1) 3 i0 (.int .i64 0) 1 8 Tryz.underlying23 hi0 hz0 hz1 hz2 rfl (by decide) (.slice al k cl) k (xs.map (Value.int .i64)) rfl (HW.out.alloc _) ⟨W.heap.size, 0, none⟩ 1 1 [.int .i64 1] rfl rfl (newsC_1 _ _ _) (oneC_1 _ _) hn2 hn3 (by simp; omega) ?_
        intro v' w1 hown1 hgrow _
        have X9 : Ext w w1 := Ext.grown (XE.out.alloc _) hgrow (fun r hr => by have := hrow r hr; omega)
        have B0' := Lib.hid ((BX.out.alloc _).grown hgrow (fun e => by have := hrow _ e.symm; omega))
        have B1' := Lib.hid ((BY.out.alloc _).grown hgrow (fun e => by have := hrow _ e.symm; omega))
        have hVz : w.heap.size + 1 + 1 ≤ w1.heap.size := by have := hgrow.size; simp at this; omega
        have HO := Lib.hid hown1
        obtain ⟨gb, cp, rfl, hgb, -⟩ := own_formP hown1
        clear hgrow hown1
        go_wp2_with fail
        go_roundw
        case rel => exact ⟨k + 1, xs ++ [1], G2, a2, m2, d2, p2, t2, r2, s2, _, rfl, by omega, by go_num, NX.out, by simp; exact HLEN.out, by rw [List.map_append]; exact HO.out, B0'.out, B1'.out, h2.out, FG2.out, hVz, X9⟩
        case measure => simp [intOf]; omega
      · have d1 : decide (q ≤ X) = false := by simp; omega
        have NX := Lib.hid (show masks q (k + 1) [] g = (xs ++ [0], G2) by rw [masks_app, HG.out]; simp only [masks]; rw [HG2.out, HX.out, if_neg hq])
        go_wp2_with (at_builtin; refine (show Hid _ from ?_).out)
        refine Lib.hid ?_
        refine wpList_append_own _ rfl _ _ 23 rfl (w.heap.size + 1 + 1) 3 i0 (.int .i64 0) 1 8 Tryz.underlying23 hi0 hz0 hz1 hz2 rfl (by decide) (.slice al k cl) k (xs.map (Value.int .i64)) rfl (HW.out.alloc _) ⟨W.heap.size, 0, none⟩ 1 1 [.int .i64 0] rfl rfl (newsC_1 _ _ _) (oneC_1 _ _) hn2 hn3 (by simp; omega) ?_
        intro v' w1 hown1 hgrow _
        have X9 : Ext w w1 := Ext.grown (XE.out.alloc _) hgrow (fun r hr => by have := hrow r hr; omega)
        have B0' := Lib.hid ((BX.out.alloc _).grown hgrow (fun e => by have := hrow _ e.symm; omega))
        have B1' := Lib.hid ((BY.out.alloc _).grown hgrow (fun e => by have := hrow _ e.symm; omega))
        have hVz : w.heap.size + 1 + 1 ≤ w1.heap.size := by have := hgrow.size; simp at this; omega
        have HO := Lib.hid hown1
        obtain ⟨gb, cp, rfl, hgb, -⟩ := own_formP hown1
        clear hgrow hown1
        go_wp2_with fail
        go_roundw
        case rel => exact ⟨k + 1, xs ++ [0], G2, a2, m2, d2, p2, t2, r2, s2, _, rfl, by omega, by go_num, NX.out, by simp; exact HLEN.out, by rw [List.map_append]; exact HO.out, B0'.out, B1'.out, h2.out, FG2.out, hVz, X9⟩
        case measure => simp [intOf]; omega
    · obtain rfl : n = k := by omega
      have zk0 := (b0.cell 0).trans (show (rv a m c p t r s)[0]? = some (.slice a m c) from rfl)
      have zk1 := (b0.cell 1).trans (show (rv a m c p t r s)[1]? = some (.int .u64 p) from rfl)
      have zk2 := (b0.cell 2).trans (show (rv a m c p t r s)[2]? = some (.int .u64 t) from rfl)
      have zk3 := (b0.cell 3).trans (show (rv a m c p t r s)[3]? = some (.int .u64 r) from rfl)
      have zk4 := (b0.cell 4).trans (show (rv a m c p t r s)[4]? = some (.int .u64 s) from rfl)
      have zf0 := b0.frozen 0
      have zf1 := b0.frozen 1
      have zf2 := b0.frozen 2
      have zf3 := b0.frozen 3
      have zf4 := b0.frozen 4
      have j0 := (b1.cell 0).trans (show (rv none 0 0 0 0 0 0)[0]? = some (.slice none 0 0) from rfl)
      have jf0 := b1.frozen 0
      have j1 := (b1.cell 1).trans (show (rv none 0 0 0 0 0 0)[1]? = some (.int .u64 0) from rfl)
      have jf1 := b1.frozen 1
      have j2 := (b1.cell 2).trans (show (rv none 0 0 0 0 0 0)[2]? = some (.int .u64 0) from rfl)
      have jf2 := b1.frozen 2
      have j3 := (b1.cell 3).trans (show (rv none 0 0 0 0 0 0)[3]? = some (.int .u64 0) from rfl)
      have jf3 := b1.frozen 3
      have j4 := (b1.cell 4).trans (show (rv none 0 0 0 0 0 0)[4]? = some (.int .u64 0) from rfl)
      have jf4 := b1.frozen 4
      have lt0 := b0.lt
      have lt1 := b1.lt
      clear hG hlen hown b0 b1 hFG BL
      go_wp2_with fail
      go_region
      all_goals
        go_wp2
        have E1 : (masks q n [] g).1 = xs := by rw [HG.out]
        have E2 : (masks q n [] g).2 = G := by rw [HG.out]
        have RF : Hid (RandAt w0 (.agg #[.slice a m c, .int .u64 p, .int .u64 t, .int .u64 r, .int .u64 s]) (masks q n [] g).2) := Lib.hid (by rw [E2]; exact hr)
        have OF := Lib.hid (own_row5 HOWN.out (b := w.heap.size + 1) (by omega) (.slice a m c) (.int .u64 p) (.int .u64 t) (.int .u64 r) (.int .u64 s))
        rw [← E1] at OF
        have XF := Lib.hid (own_ext5 hext (b := w.heap.size + 1) (by omega) (.slice a m c) (.int .u64 p) (.int .u64 t) (.int .u64 r) (.int .u64 s))
        clear hr HG E1 E2 HOWN B0 B1 hext
        simp [bodyPost, results, Tryz.results49, go_sem, *]
        exact ⟨al, cl, a, m, c, p, t, r, s, ⟨⟨rfl, rfl⟩, ⟨rfl, rfl, rfl⟩, rfl, rfl, rfl, rfl⟩, Ext.drew XF.out, Lib.hid OF.out, RF⟩
theorem iota_next (n : Nat) : iota (n + 1) = iota n ++ [(n : Int)] := by unfold iota; rw [List.range_succ, List.map_append]; rfl
theorem rs_set {w : World} {base : Nat} {e : TypeId} {g n cap : Nat} {zs : List Int} {k : IntKind} (h : w.ownsRow base e 1 (.slice (some ⟨g, 0, none⟩) n cap) n (zs.map (Value.int k))) (j : Nat) (d : Int) :
    (w.setCell ⟨g, j, none⟩ (.int k d)).ownsRow base e 1 (.slice (some ⟨g, 0, none⟩) n cap) n ((zs.set j d).map (Value.int k)) := by
  rw [List.map_set]; exact (h.stored j _).1
theorem rs_at {w : World} {base : Nat} {e : TypeId} {g n cap : Nat} {zs : List Int} {k : IntKind} (h : w.ownsRow base e 1 (.slice (some ⟨g, 0, none⟩) n cap) n (zs.map (Value.int k))) (j : Nat) (hj : j < n) :
    w.cell? ⟨g, j, none⟩ = some (.int k (zs.getD j 0)) := by
  have hl : zs.length = n := by simpa using h.1
  rw [h.cellAt j (by omega), List.getElem?_map, List.getD_eq_getElem?_getD, List.getElem?_eq_getElem (by omega)]
  rfl
set_option maxHeartbeats 4000000 in
set_option maxRecDepth 100000 in
theorem shuffle_ref {n : Nat} {g : Gen} {v : Value} {w0 w : World} (h : RandAt w0 v g) (ho : OldAs w0 w) (hf : g.Fine) (n1 : 1 ≤ n) (n2 : n ≤ 65536) :
    Calls Tryz.prog 48 #[v, .int .i64 n] w fun e w' => ∃ oa oc a m c p t r s, e = .returned (.tuple #[.slice oa n oc, .agg #[.slice a m c, .int .u64 p, .int .u64 t, .int .u64 r, .int .u64 s]]) ∧ Ext w w' ∧ Hid (w'.ownsRow (w.heap.size + 1 + 1) 3 1 (.slice oa n oc) n ((shufAt n g (n - 1)).map (Value.int .i64))) ∧ Hid (RandAt w0 (.agg #[.slice a m c, .int .u64 p, .int .u64 t, .int .u64 r, .int .u64 s]) (g.turn n (n - 1))) := by
  have HO9 := Lib.hid ho
  clear ho
  have BL : Hid (∀ (W : World) (V : Value) (G : Gen) (M : Int), RandAt w0 V G → G.Fine → Few M → Ext w W → Calls Tryz.prog 131 #[V, .int .u64 M] W fun e w' => ∃ a m c p t r s, e = .returned (.tuple #[.int .u64 (G.below M), .agg #[.slice a m c, .int .u64 p, .int .u64 t, .int .u64 r, .int .u64 s]]) ∧ Ext W w' ∧ Hid (RandAt w0 (.agg #[.slice a m c, .int .u64 p, .int .u64 t, .int .u64 r, .int .u64 s]) (G.past M))) := Lib.hid fun W V G M hv hG hM x => (below_ref hv (HO9.out.ext x) hG hM).mono (by
    rintro e w' ⟨v', rfl, x, h⟩
    obtain ⟨a, m, c, p, q, r, s, rfl, -⟩ := h.form
    exact ⟨a, m, c, p, q, r, s, rfl, x, Lib.hid h⟩)
  obtain ⟨i0, hi0, hz0, hz1, hz2⟩ := info_parts infoI
  have HR := Lib.hid h
  have HF := Lib.hid hf
  obtain ⟨a, m, c, p, t, r, s, rfl, -⟩ := h.form
  clear h hf
  go_enter Tryz.func48, Tryz.ntmps48
  go_wp2_with fail
  go_loopw [6, 7] (fun lv iv wr => ∃ (k : Nat) (lq : Value), lv = lq ∧ k ≤ n ∧ iv = .int .i64 k ∧ wr.ownsRow (w.heap.size + 1 + 1) 3 1 lq k ((iota k).map (Value.int .i64)) ∧ Blk wr w.heap.size 62 (rv a m c p t r s) ∧ Blk wr (w.heap.size + 1) 62 (rv none 0 0 0 0 0 0) ∧ w.heap.size + 1 + 1 ≤ wr.heap.size ∧ Ext w wr) (fun _ iv _ => n - (intOf iv).toNat)
  case atStart => exact ⟨0, _, rfl, Nat.zero_le _, rfl, World.ownsRow_nil _ _ _ _, (Blk.new w _ _).alloc _, by have := Blk.new (w.alloc (.cells (rv a m c p t r s) 62)) 62 (rv none 0 0 0 0 0 0); simpa [rv] using this, by simp, Ext.q⟩
  case round =>
    obtain ⟨k, lq, rfl, hk, rfl, hown, b0, b1, hVw, hext⟩ := hrel
    obtain ⟨al, cl, rfl⟩ := own_sl hown
    have hrow : ∀ r, (Value.slice al k cl).ownBlock = some r → w.heap.size + 1 + 1 ≤ r := fun r hr => (hown.lt r hr).1
    have HW := Lib.hid hown
    have BX := Lib.hid b0
    have BY := Lib.hid b1
    have XE := Lib.hid hext
    clear hown b0 b1
    by_cases hlt : k < n
    · have hkz : (k : Int) < (n : Int) := by omega
      have hn2 : k + 1 ≤ maxLen := by unfold maxLen; omega
      have hn3 : (k + 1) * 8 ≤ 140737488355328 := by omega
      clear hext
      go_wp2_with (at_builtin; refine (show Hid _ from ?_).out)
      refine Lib.hid ?_
      refine wpList_append_own _ rfl _ _ 23 rfl (w.heap.size + 1 + 1) 3 i0 (.int .i64 0) 1 8 Tryz.underlying23 hi0 hz0 hz1 hz2 rfl (by decide) (.slice al k cl) k ((iota k).map (Value.int .i64)) rfl (HW.out.alloc _) ⟨wr.heap.size, 0, none⟩ 1 1 [.int .i64 (k : Int)] rfl rfl (newsC_1 _ _ _) (oneC_1 _ _) hn2 hn3 (by simp; omega) ?_
      intro v' w1 hown1 hgrow _
      have X9 : Ext w w1 := Ext.grown (XE.out.alloc _) hgrow (fun r hr => by have := hrow r hr; omega)
      have B0' := Lib.hid ((BX.out.alloc _).grown hgrow (fun e => by have := hrow _ e.symm; omega))
      have B1' := Lib.hid ((BY.out.alloc _).grown hgrow (fun e => by have := hrow _ e.symm; omega))
      have hVz : w.heap.size + 1 + 1 ≤ w1.heap.size := by have := hgrow.size; simp at this; omega
      have HO := Lib.hid hown1
      obtain ⟨gb, cp, rfl, hgb, -⟩ := own_formP hown1
      clear hgrow hown1
      go_wp2_with fail
      go_roundw
      case rel => exact ⟨k + 1, _, rfl, by omega, by go_num, by rw [iota_next, List.map_append]; exact HO.out, B0'.out, B1'.out, hVz, X9⟩
      case measure => simp [intOf]; omega
    · obtain rfl : n = k := by omega
      have hkz : ¬ (n : Int) < (n : Int) := by omega
      obtain ⟨gE, cE, e, hgE, -⟩ := own_form1 HW.out (by omega)
      cases e
      clear hext hrow
      go_wp2_with fail
      go_loopw [8] (fun iv wr => ∃ (k I : Nat) (a : Option Addr) (m c : Nat) (p t r s : Int), iv = .int .i64 (I : Int) ∧ I + k + 1 = n ∧ wr.ownsRow (w.heap.size + 1 + 1) 3 1 (.slice (some ⟨gE, 0, none⟩) n cl) n ((shufAt n g k).map (Value.int .i64)) ∧ Blk wr w.heap.size 62 (rv a m c p t r s) ∧ Blk wr (w.heap.size + 1) 62 (rv none 0 0 0 0 0 0) ∧ RandAt w0 (.agg (rv a m c p t r s)) (g.turn n k) ∧ w.heap.size + 1 + 1 ≤ wr.heap.size ∧ Ext w wr) (fun iv _ => (intOf iv).toNat)
      case atStart => exact ⟨0, n - 1, a, m, c, p, t, r, s, by congr 1; omega, by omega, HW.out, BX.out, BY.out, HR.out, hVw, XE.out⟩
      case round =>
        clear HW BX BY HR XE hVw
        obtain ⟨k, I, a, m, c, p, t, r, s, rfl, hIk, hown, b0, b1, hr, hVw, hext⟩ := hrel
        have HOWN := Lib.hid hown
        have B0 := Lib.hid b0
        have B1 := Lib.hid b1
        have hFG := Gen.turn_fine (n := n) HF.out k
        by_cases hlt : 1 ≤ I
        · have hz : (1 : Int) ≤ (I : Int) := by omega
          have DR := Lib.hid (BL.out wr _ _ ((I : Int) + 1) hr hFG (few_of (by omega) (by omega)) hext)
          have ek : (I : Int) + 1 = (n : Int) - k := by omega
          obtain ⟨X0, X1⟩ := (g.turn n k).below_bd (n := (I : Int) + 1) (by omega)
          obtain ⟨D, hD⟩ : ∃ D : Nat, (g.turn n k).below ((I : Int) + 1) = D := ⟨((g.turn n k).below ((I : Int) + 1)).toNat, by omega⟩
          have HNX := Lib.hid (show g.turn n (k + 1) = (g.turn n k).past ((I : Int) + 1) by rw [ek]; rfl)
          have HSH := Lib.hid (show shufAt n g (k + 1) = swap (shufAt n g k) I D by rw [shufAt, ← ek, hD, show n - 1 - k = I by omega]; simp)
          rw [hD] at DR X0 X1
          have hDI : D ≤ I := by omega
          have e1 : IntKind.u64.wrap ((I : Int) + 1) = (I : Int) + 1 := by rw [IntKind.wrap_u64]; omega
          have e2 : IntKind.i64.wrap (D : Int) = D := wrap_i64 (by omega) (by omega)
          have hln : (shufAt n g k).length = n := shufAt_len n g k
          clear ek hD hown b0 b1 hr hFG X0 X1
          have zk0 := (B0.out.cell 0).trans (show (rv a m c p t r s)[0]? = some (.slice a m c) from rfl)
          have zk1 := (B0.out.cell 1).trans (show (rv a m c p t r s)[1]? = some (.int .u64 p) from rfl)
          have zk2 := (B0.out.cell 2).trans (show (rv a m c p t r s)[2]? = some (.int .u64 t) from rfl)
          have zk3 := (B0.out.cell 3).trans (show (rv a m c p t r s)[3]? = some (.int .u64 r) from rfl)
          have zk4 := (B0.out.cell 4).trans (show (rv a m c p t r s)[4]? = some (.int .u64 s) from rfl)
          have zf0 := B0.out.frozen 0
          have zf1 := B0.out.frozen 1
          have zf2 := B0.out.frozen 2
          have zf3 := B0.out.frozen 3
          have zf4 := B0.out.frozen 4
          go_wp2_with fail
          refine (DR.out).mono ?_; rintro e v2 ⟨a2, m2, d2, p2, t2, r2, s2, rfl, x2, h2⟩; obtain ⟨c2, f2⟩ := x2.rules; have z2 := x2.size
          have yk0 := ((B0.out.ext x2).cell 0).trans (show (rv a m c p t r s)[0]? = some (.slice a m c) from rfl)
          have yk1 := ((B0.out.ext x2).cell 1).trans (show (rv a m c p t r s)[1]? = some (.int .u64 p) from rfl)
          have yk2 := ((B0.out.ext x2).cell 2).trans (show (rv a m c p t r s)[2]? = some (.int .u64 t) from rfl)
          have yk3 := ((B0.out.ext x2).cell 3).trans (show (rv a m c p t r s)[3]? = some (.int .u64 r) from rfl)
          have yk4 := ((B0.out.ext x2).cell 4).trans (show (rv a m c p t r s)[4]? = some (.int .u64 s) from rfl)
          have yf0 := (B0.out.ext x2).frozen 0
          have yf1 := (B0.out.ext x2).frozen 1
          have yf2 := (B0.out.ext x2).frozen 2
          have yf3 := (B0.out.ext x2).frozen 3
          have yf4 := (B0.out.ext x2).frozen 4
          have BX := Lib.hid (((((((B0.out.ext x2).set_ 0 (.slice a2 m2 d2)).set_ 1 (.int .u64 p2)).set_ 2 (.int .u64 t2)).set_ 3 (.int .u64 r2)).set_ 4 (.int .u64 s2)))
          have BY := Lib.hid ((((((B1.out.ext x2).far (p := ⟨w.heap.size, 0, none⟩) (by simp) (.slice a2 m2 d2)).far (p := ⟨w.heap.size, 1, none⟩) (by simp) (.int .u64 p2)).far (p := ⟨w.heap.size, 2, none⟩) (by simp) (.int .u64 t2)).far (p := ⟨w.heap.size, 3, none⟩) (by simp) (.int .u64 r2)).far (p := ⟨w.heap.size, 4, none⟩) (by simp) (.int .u64 s2))
          have HW := Lib.hid (own_row5 (own_old HOWN.out x2) (b := w.heap.size) (by omega) (.slice a2 m2 d2) (.int .u64 p2) (.int .u64 t2) (.int .u64 r2) (.int .u64 s2))
          have XE := Lib.hid (own_ext5 (hext.tr x2) (Nat.le_refl _) (.slice a2 m2 d2) (.int .u64 p2) (.int .u64 t2) (.int .u64 r2) (.int .u64 s2))
          have hzW : w.heap.size + 1 + 1 ≤ (((((v2.setCell ⟨w.heap.size, 0, none⟩ (.slice a2 m2 d2)).setCell ⟨w.heap.size, 1, none⟩ (.int .u64 p2)).setCell ⟨w.heap.size, 2, none⟩ (.int .u64 t2)).setCell ⟨w.heap.size, 3, none⟩ (.int .u64 r2)).setCell ⟨w.heap.size, 4, none⟩ (.int .u64 s2)).heap.size := by have := x2.size; simp at this ⊢; omega
          clear B0 B1 HOWN c2 f2 x2 hext DR zk0 zk1 zk2 zk3 zk4 zf0 zf1 zf2 zf3 zf4
          go_upto_region 11 with fail
          generalize (((((v2.setCell ⟨w.heap.size, 0, none⟩ (.slice a2 m2 d2)).setCell ⟨w.heap.size, 1, none⟩ (.int .u64 p2)).setCell ⟨w.heap.size, 2, none⟩ (.int .u64 t2)).setCell ⟨w.heap.size, 3, none⟩ (.int .u64 r2)).setCell ⟨w.heap.size, 4, none⟩ (.int .u64 s2)) = W at *
          generalize shufAt n g k = ys at *
          have cI := rs_at HW.out I (by omega)
          have cD := rs_at HW.out D (by omega)
          have fI := HW.out.frozenAt I
          have H1 := rs_set HW.out I (ys.getD D 0)
          have cD1 := rs_at H1 D (by omega)
          have fD1 := H1.frozenAt D
          have H2 := Lib.hid (rs_set H1 D (ys.getD I 0))
          have BE0 := Lib.hid ((BX.out.far (p := ⟨gE, I, none⟩) (by show _ ≠ gE; omega) (.int .i64 (ys.getD D 0))).far (p := ⟨gE, D, none⟩) (by show _ ≠ gE; omega) (.int .i64 (ys.getD I 0)))
          have BE1 := Lib.hid ((BY.out.far (p := ⟨gE, I, none⟩) (by show _ ≠ gE; omega) (.int .i64 (ys.getD D 0))).far (p := ⟨gE, D, none⟩) (by show _ ≠ gE; omega) (.int .i64 (ys.getD I 0)))
          have XF := Lib.hid ((XE.out.setCell (p := ⟨gE, I, none⟩) (by show _ ≤ gE; omega) (.int .i64 (ys.getD D 0))).setCell (p := ⟨gE, D, none⟩) (by show _ ≤ gE; omega) (.int .i64 (ys.getD I 0)))
          have zI : (I : Int) < (n : Int) := by omega
          have zD : (D : Int) < (n : Int) := by omega
          generalize (ys.set I (ys.getD D 0)).getD D 0 = yy at *
          change Hid (World.ownsRow _ _ _ _ _ _ ((swap ys I D).map (Value.int .i64))) at H2
          generalize hyD : ys.getD D 0 = yD at *
          generalize hyI : ys.getD I 0 = yI at *
          clear H1 HW BX BY XE
          go_wp2_with fail
          go_roundw
          case rel => exact ⟨k + 1, I - 1, a2, m2, d2, p2, t2, r2, s2, by congr 1; omega, by omega, by rw [HSH.out]; exact H2.out, BE0.out, BE1.out, by rw [HNX.out]; exact h2.out, by simpa using hzW, XF.out⟩
          case measure => simp [intOf]; omega
        · obtain rfl : I = 0 := by omega
          obtain rfl : k = n - 1 := by omega
          have hz : ¬ (1 : Int) ≤ ((0 : Nat) : Int) := by omega
          have zk0 := (B0.out.cell 0).trans (show (rv a m c p t r s)[0]? = some (.slice a m c) from rfl)
          have zk1 := (B0.out.cell 1).trans (show (rv a m c p t r s)[1]? = some (.int .u64 p) from rfl)
          have zk2 := (B0.out.cell 2).trans (show (rv a m c p t r s)[2]? = some (.int .u64 t) from rfl)
          have zk3 := (B0.out.cell 3).trans (show (rv a m c p t r s)[3]? = some (.int .u64 r) from rfl)
          have zk4 := (B0.out.cell 4).trans (show (rv a m c p t r s)[4]? = some (.int .u64 s) from rfl)
          have zf0 := B0.out.frozen 0
          have zf1 := B0.out.frozen 1
          have zf2 := B0.out.frozen 2
          have zf3 := B0.out.frozen 3
          have zf4 := B0.out.frozen 4
          have j0 := (B1.out.cell 0).trans (show (rv none 0 0 0 0 0 0)[0]? = some (.slice none 0 0) from rfl)
          have jf0 := B1.out.frozen 0
          have j1 := (B1.out.cell 1).trans (show (rv none 0 0 0 0 0 0)[1]? = some (.int .u64 0) from rfl)
          have jf1 := B1.out.frozen 1
          have j2 := (B1.out.cell 2).trans (show (rv none 0 0 0 0 0 0)[2]? = some (.int .u64 0) from rfl)
          have jf2 := B1.out.frozen 2
          have j3 := (B1.out.cell 3).trans (show (rv none 0 0 0 0 0 0)[3]? = some (.int .u64 0) from rfl)
          have jf3 := B1.out.frozen 3
          have j4 := (B1.out.cell 4).trans (show (rv none 0 0 0 0 0 0)[4]? = some (.int .u64 0) from rfl)
          have jf4 := B1.out.frozen 4
          have lt0 := b0.lt
          have lt1 := b1.lt
          clear hown b0 b1 hFG BL
          go_wp2_with fail
          go_region
          all_goals
            go_wp2
            have RF : Hid (RandAt w0 (.agg #[.slice a m c, .int .u64 p, .int .u64 t, .int .u64 r, .int .u64 s]) (g.turn n (n - 1))) := Lib.hid hr
            have OF := Lib.hid (own_row5 HOWN.out (b := w.heap.size + 1) (by omega) (.slice a m c) (.int .u64 p) (.int .u64 t) (.int .u64 r) (.int .u64 s))
            have XF := Lib.hid (own_ext5 hext (b := w.heap.size + 1) (by omega) (.slice a m c) (.int .u64 p) (.int .u64 t) (.int .u64 r) (.int .u64 s))
            clear hr HOWN B0 B1 hext
            simp [bodyPost, results, Tryz.results48, go_sem, *]
            exact ⟨_, _, a, m, c, p, t, r, s, ⟨⟨rfl, rfl⟩, ⟨rfl, rfl, rfl⟩, rfl, rfl, rfl, rfl⟩, Ext.drew XF.out, Lib.hid OF.out, RF⟩
end Go.Proofs.YtkegefnpmijfiaaGreat
