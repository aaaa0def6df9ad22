/- The document's Bound, Fill. ratchetref0.CopyTensor, EqTensor. Answers that are tensors, written over; ratchetlaw8.Is. SeedExact: each call's answer in one form, whether it is refused or not. -/
import Derived.Test.YtkegefnpmijfiaaGreatQRefs
import Derived.Test.YtkegefnpmijfiaaGreatQRootL
import Derived.Test.YtkegefnpmijfiaaGreatQRHalf
import Derived.Test.YtkegefnpmijfiaaGreatQRef2
import Derived.Test.YtkegefnpmijfiaaGreatQShps
import Derived.Test.YtkegefnpmijfiaaGreatQReckon
import Derived.Test.YtkegefnpmijfiaaGreatQClonesG
import Derived.Test.YtkegefnpmijfiaaGreatQGbI
import Derived.Test.YtkegefnpmijfiaaGreatQNewS
import Derived.Test.YtkegefnpmijfiaaGreatQDs
import Derived.Test.YtkegefnpmijfiaaGreatQSpread
import Derived.Deep.AppendLies
namespace Go.Proofs.YtkegefnpmijfiaaGreat
open Go.RowKit
attribute [local go_sem ↓] Go.wp_at_zero Go.wp_at_succ
theorem cnt_pr {xs : List Int} (hp : pr xs ≤ 65536) : cnt xs = pr xs := by unfold cnt; rw [if_pos hp]
theorem own_drew {w : World} {base n size : Nat} {e : TypeId} {v : Value} {xs : List Value} (h : w.ownsRow base e size v n xs) : w.drew.ownsRow base e size v n xs := h
theorem own_setF {w : World} {base b o : Nat} {e : TypeId} {v u : Value} {n : Nat} {xs : List Value} (h : w.ownsRow base e 1 v n xs) (hb : b < base) : (w.setCell ⟨b, o, none⟩ u).ownsRow base e 1 v n xs := ownsRow_setCell_below h hb _
set_option maxRecDepth 100000 in
theorem bound_ref {n f : Int} (w : World) (n0 : 1 ≤ n) (n1 : n ≤ 131072) (hf : gdF f = true) :
    Calls Tryz.prog 47 #[.int .i64 n, .int .i64 f] w fun e w' => ∃ r, e = .returned (.int .i64 r) ∧ Ext w w' ∧ Hid (NearRoot (dv 6 n f * p2 f) 1 r ∧ gd r = true) := by
  have RT := ratio6 (n := n) (f := f) (by omega) hf
  obtain ⟨f1, f2⟩ := gdF_iff.1 hf
  have F1 := Lib.hid (fun u => From_ref 6 u (by omega) (by omega))
  have F2 := Lib.hid (fun u => From_ref n u (by omega) (by omega))
  have hn : n ≠ 0 := by omega
  have DQ : wv (near (sgd n (6 * p2 f)) (mag n)) = dv 6 n f := by rw [dv_ok hn, rdiv_near _ _ hn]; rfl
  have SQ : Hid (∀ u, Calls Tryz.prog 44 #[.int .i64 (dv 6 n f), .int .i64 f] u fun e w' => ∃ r, e = .returned (.tuple #[.int .i64 r, .int .i64 0]) ∧ Ext u w' ∧ Hid (NearRoot (dv 6 n f * p2 f) 1 r ∧ gd r = true)) := Lib.hid fun u => (RSqrt_ref u RT.2.2.2 hf RT.1).mono (by
    rintro e w' ⟨r, rfl, x, nr⟩
    have g := sqrt_gd RT.2.2.2 hf RT.1 nr
    exact ⟨r, by rw [wv_of g, we_of g], x, Lib.hid ⟨nr, g⟩⟩)
  generalize dv 6 n f = Q at *
  clear RT n0 n1
  go_enter Tryz.func47, Tryz.ntmps47
  go_wp2_with fail; refine (F1.out _).mono ?_; rintro e v1 ⟨q1, rfl, x1, h1⟩; obtain ⟨c1, f1⟩ := x1.rules; have z1 := x1.size
  have H1 := Lib.hid h1
  clear h1
  go_wp2_with fail; refine (F2.out _).mono ?_; rintro e v2 ⟨q2, rfl, x2, h2⟩; obtain ⟨c2, f2⟩ := x2.rules; have z2 := x2.size
  have H2 := Lib.hid h2
  clear h2
  go_wp2_with fail
  refine (Over_ref (H1.out.ext Ext.q) H2.out hn (by omega) (by omega) (by omega) (show 1 + f.toNat / 64 + 1 ≤ 2 by omega) (by omega)).mono ?_; rintro e v3 ⟨v, n', d', g, rfl, x3, g0, e1, e2, d0, h6⟩; obtain ⟨c3, f3⟩ := x3.rules; have z3 := x3.size
  have H6 := Lib.hid h6
  have e := near_gcd g0 e1 e2
  have nr := fun (u : World) (x : Ext v3 u) => Near_ref (H6.out.ext x) d0 (by omega)
  rw [← e, DQ] at nr
  have NR := Lib.hid nr
  clear h6 e1 e2 e nr DQ
  generalize we (near (sgd n (6 * p2 f)) (mag n)) = qe at *
  go_wp2_with fail; refine (NR.out _ Ext.q).mono ?_; rintro e v7 ⟨rfl, x7⟩; obtain ⟨c7, f7⟩ := x7.rules; have z7 := x7.size
  go_wp2_with fail; refine (SQ.out _).mono ?_; rintro e v8 ⟨r, rfl, x8, nr8⟩; obtain ⟨c8, f8⟩ := x8.rules; have z8 := x8.size
  go_wp2
  go_ret
  exact ⟨r, rfl, Ext.q, nr8⟩
theorem infoW : (Tryz.prog.info? 2).map (fun i => (i.zero, i.size, i.bytes)) = some (some (.int .i64 0), 1, 8) := by kernel_rfl
set_option maxHeartbeats 4000000 in
set_option maxRecDepth 100000 in
theorem fill_ref {v s : Value} {xs : List Int} {g : Gen} {w0 w : World} {A : Int} (h : RandAt w0 v g) (ho : OldAs w0 w) (hf : g.Fine) (hs : Row .i64 w s xs) (hx : shp xs = true) (n : Nat) (hn : pr xs = n) (A0 : 0 ≤ A) (A1 : A < 11000000000) :
    Calls Tryz.prog 46 #[v, s, .int .i64 A] w fun e w' => ∃ (sa : Option Addr) (sc : Nat) (da : Option Addr) (dc : Nat) (a : Option Addr) (m c : Nat) (p t r u : Int), e = .returned (.tuple #[.agg #[.slice sa xs.length sc, .slice da n dc], .agg #[.slice a m c, .int .u64 p, .int .u64 t, .int .u64 r, .int .u64 u]]) ∧ Ext w w' ∧ Hid (w'.ownsRow (w.heap.size + 1 + 1 + 1) 3 1 (.slice sa xs.length sc) xs.length (xs.map (Value.int .i64)) ∧ w'.ownsRow (w.heap.size + 1 + 1 + 1) 2 1 (.slice da n dc) n ((fillG A n g).1.map (Value.int .i64))) ∧ Hid (RandAt w0 (.agg #[.slice a m c, .int .u64 p, .int .u64 t, .int .u64 r, .int .u64 u]) (fillG A n g).2) := by
  have HX := shp_dims hx
  have n1 : n ≤ 65536 := by have := HX.2; omega
  have HO9 := Lib.hid ho
  clear ho
  have BL : Hid (∀ (W : World) (V : Value) (G : Gen) (M : Int), RandAt w0 V G → G.Fine → Few M → Ext w W → Calls Tryz.prog 131 #[V, .int .u64 M] W fun e w' => ∃ a m c p t r s, e = .returned (.tuple #[.int .u64 (G.below M), .agg #[.slice a m c, .int .u64 p, .int .u64 t, .int .u64 r, .int .u64 s]]) ∧ Ext W w' ∧ Hid (RandAt w0 (.agg #[.slice a m c, .int .u64 p, .int .u64 t, .int .u64 r, .int .u64 s]) (G.past M))) := Lib.hid fun W V G M hv hG hM x => (below_ref hv (HO9.out.ext x) hG hM).mono (by
    rintro e w' ⟨v', rfl, x, h⟩
    obtain ⟨a, m, c, p, q, r, s, rfl, -⟩ := h.form
    exact ⟨a, m, c, p, q, r, s, rfl, x, Lib.hid h⟩)
  obtain ⟨i0, hi0, hz0, hz1, hz2⟩ := info_parts infoW
  have CN := Lib.hid (fun u (x : Ext w u) => copyN_any (hs.ext x) (by have := HX.1.1; omega))
  have CT := Lib.hid (fun u (x : Ext w u) => count_any (hs.ext x) HX.1)
  rw [cnt_pr HX.2, hn] at CT
  have HR := Lib.hid h
  have HF := Lib.hid hf
  obtain ⟨s0, sn, rfl, -⟩ := hs.form'
  obtain ⟨a, m, c, p, t, r, u, rfl, -⟩ := h.form
  clear h hf hs hx hn HX
  go_enter Tryz.func46, Tryz.ntmps46
  go_wp2_with fail; refine (CN.out _ Ext.q).mono ?_; rintro e v1 ⟨q1, rfl, x1, h1⟩; obtain ⟨c1, f1⟩ := x1.rules; have z1 := x1.size; have lq := fun o => c1 (w.heap.size) o (by first | (simp; done) | (simp; omega) | omega); have mq := fun o => f1 (w.heap.size) o (by first | (simp; done) | (simp; omega) | omega); have k1_0_0 := lq 0; have q1_0_0 := mq 0; have k1_0_1 := lq 1; have q1_0_1 := mq 1; have k1_0_2 := lq 2; have q1_0_2 := mq 2; have k1_0_3 := lq 3; have q1_0_3 := mq 3; have k1_0_4 := lq 4; have q1_0_4 := mq 4; clear lq mq; have lq := fun o => c1 (w.heap.size + 1) o (by first | (simp; done) | (simp; omega) | omega); have mq := fun o => f1 (w.heap.size + 1) o (by first | (simp; done) | (simp; omega) | omega); have k1_1_0 := lq 0; have q1_1_0 := mq 0; have k1_1_1 := lq 1; have q1_1_1 := mq 1; clear lq mq; have lq := fun o => c1 (w.heap.size + 2) o (by first | (simp; done) | (simp; omega) | omega); have mq := fun o => f1 (w.heap.size + 2) o (by first | (simp; done) | (simp; omega) | omega); have k1_2_0 := lq 0; have q1_2_0 := mq 0; have k1_2_1 := lq 1; have q1_2_1 := mq 1; have k1_2_2 := lq 2; have q1_2_2 := mq 2; have k1_2_3 := lq 3; have q1_2_3 := mq 3; have k1_2_4 := lq 4; have q1_2_4 := mq 4; clear lq mq; have z1_0 : w.heap.size < v1.heap.size := (by (try simp at z1); omega); have z1_1 : w.heap.size + 1 < v1.heap.size := (by (try simp at z1); omega); have z1_2 : w.heap.size + 2 < v1.heap.size := (by (try simp at z1); omega); (try simp at z1); clear c1 f1; simp [go_sem, *] at k1_0_0 q1_0_0 k1_0_1 q1_0_1 k1_0_2 q1_0_2 k1_0_3 q1_0_3 k1_0_4 q1_0_4 k1_1_0 q1_1_0 k1_1_1 q1_1_1 k1_2_0 q1_2_0 k1_2_1 q1_2_1 k1_2_2 q1_2_2 k1_2_3 q1_2_3 k1_2_4 q1_2_4
  obtain ⟨sa, sc, rfl⟩ := own_sl h1
  have h1l := Lib.hid h1.lt
  have B0 := Lib.hid (show Blk v1 w.heap.size 62 (rv a m c p t r u) from (((Blk.new w _ _).alloc _).alloc _).ext x1)
  have B1 := Lib.hid (show Blk v1 (w.heap.size + 1) 26 #[.slice none 0 0, .slice none 0 0] from by have := (((Blk.new (w.alloc (.cells (rv a m c p t r u) 62)) 26 #[.slice none 0 0, .slice none 0 0]).alloc (.cells (rv none 0 0 0 0 0 0) 62))).ext x1; simpa using this)
  have B2 := Lib.hid (show Blk v1 (w.heap.size + 1 + 1) 62 (rv none 0 0 0 0 0 0) from by have := (Blk.new ((w.alloc (.cells (rv a m c p t r u) 62)).alloc (.cells #[.slice none 0 0, .slice none 0 0] 26)) 62 (rv none 0 0 0 0 0 0)).ext x1; simpa using this)
  have hb3 : w.heap.size + 1 + 1 + 1 ≤ v1.heap.size := by have := x1.size; simpa using this
  have SR := Lib.hid (own_base (base' := w.heap.size + 1 + 1 + 1) h1 (by simp))
  have xw1 : Ext w v1 := Ext.q
  clear h1 x1 CN
  go_wp2_with fail
  generalize hT : v1.heap.size = T at *
  have SL : Hid (∀ b, (Value.slice sa xs.length sc).ownBlock = some b → w.heap.size + 1 + 1 + 1 ≤ b ∧ b < T) := Lib.hid fun b hb => by have := h1l.out b hb; simp at this; omega
  clear h1l
  go_loopw [9] (fun iv wr => ∃ (k : Nat) (ds : List Int) (G : Gen) (a : Option Addr) (m c : Nat) (p t r u : Int) (da : Option Addr) (dc : Nat), k ≤ n ∧ iv = .int .i64 k ∧ fillG A k g = (ds, G) ∧ Blk wr w.heap.size 62 (rv a m c p t r u) ∧ Blk wr T 26 #[.slice sa xs.length sc, .slice da k dc] ∧ wr.ownsRow (T + 1) 2 1 (.slice da k dc) k (ds.map (Value.int .i64)) ∧ wr.ownsRow (w.heap.size + 1 + 1 + 1) 3 1 (.slice sa xs.length sc) xs.length (xs.map (Value.int .i64)) ∧ Blk wr (w.heap.size + 1) 26 #[.slice none 0 0, .slice none 0 0] ∧ Blk wr (w.heap.size + 1 + 1) 62 (rv none 0 0 0 0 0 0) ∧ RandAt w0 (.agg (rv a m c p t r u)) G ∧ G.Fine ∧ T + 1 ≤ wr.heap.size ∧ Ext w wr) (fun iv _ => n - (intOf iv).toNat)
  case atStart => exact ⟨0, [], g, a, m, c, p, t, r, u, none, 0, Nat.zero_le _, rfl, rfl, B0.out.alloc _, by subst hT; exact Blk.new _ _ _, World.ownsRow_nil _ _ _ _, SR.out.alloc _, B1.out.alloc _, B2.out.alloc _, HR.out, HF.out, by simp; omega, xw1.alloc _⟩
  case round =>
    clear HR HF B0 B1 B2 SR xw1 hT
    obtain ⟨k, ds, G, a, m, c, p, t, r, s, da, dc, hk, rfl, hG, b0, bT, hown, sr, b1, b2, hr, hFG, hVw, hext⟩ := hrel
    have HG := Lib.hid hG
    have HOWN := Lib.hid hown
    have SR := Lib.hid sr
    have B0 := Lib.hid b0
    have B1 := Lib.hid b1
    have B2 := Lib.hid b2
    have BT := Lib.hid bT
    have hrow : ∀ r, (Value.slice da k dc).ownBlock = some r → T + 1 ≤ r := fun r hr => (hown.lt r hr).1
    by_cases hlt : k < n
    · have DR := Lib.hid (BL.out wr _ G (2 * A + 1) hr hFG (few_of (by omega) (by omega)) hext)
      obtain ⟨X0, X1⟩ := G.below_bd (n := 2 * A + 1) (by omega)
      obtain ⟨X, hX⟩ : ∃ X, G.below (2 * A + 1) = X := ⟨_, rfl⟩
      rw [hX] at DR X0 X1
      have FG2 := Lib.hid (Gen.past_fine hFG (2 * A + 1))
      have NX := Lib.hid (show fillG A (k + 1) g = (ds ++ [X - A], G.past (2 * A + 1)) by rw [fillG, hG]; simp only; rw [hX])
      have hkz : (k : Int) < (n : Int) := by omega
      have hn2 : k + 1 ≤ maxLen := by unfold maxLen; omega
      have hn3 : (k + 1) * 8 ≤ 140737488355328 := by omega
      have e1 : IntKind.i64.wrap (2 * A) = 2 * A := wrap_i64 (by omega) (by omega)
      have e2 : IntKind.i64.wrap (2 * A + 1) = 2 * A + 1 := wrap_i64 (by omega) (by omega)
      have e3 : IntKind.u64.wrap (2 * A + 1) = 2 * A + 1 := by rw [IntKind.wrap_u64]; omega
      have e5 : IntKind.i64.wrap X = X := wrap_i64 (by omega) (by omega)
      have e6 : IntKind.i64.wrap (X - A) = X - A := wrap_i64 (by omega) (by omega)
      have zk0 := (b0.cell 0).trans (show (rv a m c p t r s)[0]? = some (.slice a m c) from rfl)
      have zk1 := (b0.cell 1).trans (show (rv a m c p t r s)[1]? = some (.int .u64 p) from rfl)
      have zk2 := (b0.cell 2).trans (show (rv a m c p t r s)[2]? = some (.int .u64 t) from rfl)
      have zk3 := (b0.cell 3).trans (show (rv a m c p t r s)[3]? = some (.int .u64 r) from rfl)
      have zk4 := (b0.cell 4).trans (show (rv a m c p t r s)[4]? = some (.int .u64 s) from rfl)
      have zf0 := b0.frozen 0
      have zf1 := b0.frozen 1
      have zf2 := b0.frozen 2
      have zf3 := b0.frozen 3
      have zf4 := b0.frozen 4
      have CT1 := Lib.hid (CT.out wr hext)
      clear hX hG hown sr b0 b1 b2 bT hr hFG
      go_wp2_with fail
      refine (CT1.out).mono ?_
      rintro e w' ⟨rfl, rfl⟩
      go_wp2_with fail
      refine (DR.out).mono ?_; rintro e v2 ⟨a2, m2, d2, p2, t2, r2, s2, rfl, x2, h2⟩; obtain ⟨c2, f2⟩ := x2.rules; have z2 := x2.size
      have yk0 := ((B0.out.ext x2).cell 0).trans (show (rv a m c p t r s)[0]? = some (.slice a m c) from rfl)
      have yk1 := ((B0.out.ext x2).cell 1).trans (show (rv a m c p t r s)[1]? = some (.int .u64 p) from rfl)
      have yk2 := ((B0.out.ext x2).cell 2).trans (show (rv a m c p t r s)[2]? = some (.int .u64 t) from rfl)
      have yk3 := ((B0.out.ext x2).cell 3).trans (show (rv a m c p t r s)[3]? = some (.int .u64 r) from rfl)
      have yk4 := ((B0.out.ext x2).cell 4).trans (show (rv a m c p t r s)[4]? = some (.int .u64 s) from rfl)
      have yf0 := (B0.out.ext x2).frozen 0
      have yf1 := (B0.out.ext x2).frozen 1
      have yf2 := (B0.out.ext x2).frozen 2
      have yf3 := (B0.out.ext x2).frozen 3
      have yf4 := (B0.out.ext x2).frozen 4
      have BX := Lib.hid (((((((B0.out.ext x2).set_ 0 (.slice a2 m2 d2)).set_ 1 (.int .u64 p2)).set_ 2 (.int .u64 t2)).set_ 3 (.int .u64 r2)).set_ 4 (.int .u64 s2)))
      have BY1 := Lib.hid ((((((B1.out.ext x2).far (p := ⟨w.heap.size, 0, none⟩) (by show _ ≠ w.heap.size; omega) (.slice a2 m2 d2)).far (p := ⟨w.heap.size, 1, none⟩) (by show _ ≠ w.heap.size; omega) (.int .u64 p2)).far (p := ⟨w.heap.size, 2, none⟩) (by show _ ≠ w.heap.size; omega) (.int .u64 t2)).far (p := ⟨w.heap.size, 3, none⟩) (by show _ ≠ w.heap.size; omega) (.int .u64 r2)).far (p := ⟨w.heap.size, 4, none⟩) (by show _ ≠ w.heap.size; omega) (.int .u64 s2))
      have BY2 := Lib.hid ((((((B2.out.ext x2).far (p := ⟨w.heap.size, 0, none⟩) (by show _ ≠ w.heap.size; omega) (.slice a2 m2 d2)).far (p := ⟨w.heap.size, 1, none⟩) (by show _ ≠ w.heap.size; omega) (.int .u64 p2)).far (p := ⟨w.heap.size, 2, none⟩) (by show _ ≠ w.heap.size; omega) (.int .u64 t2)).far (p := ⟨w.heap.size, 3, none⟩) (by show _ ≠ w.heap.size; omega) (.int .u64 r2)).far (p := ⟨w.heap.size, 4, none⟩) (by show _ ≠ w.heap.size; omega) (.int .u64 s2))
      have BYT := Lib.hid ((((((BT.out.ext x2).far (p := ⟨w.heap.size, 0, none⟩) (by show _ ≠ w.heap.size; omega) (.slice a2 m2 d2)).far (p := ⟨w.heap.size, 1, none⟩) (by show _ ≠ w.heap.size; omega) (.int .u64 p2)).far (p := ⟨w.heap.size, 2, none⟩) (by show _ ≠ w.heap.size; omega) (.int .u64 t2)).far (p := ⟨w.heap.size, 3, none⟩) (by show _ ≠ w.heap.size; omega) (.int .u64 r2)).far (p := ⟨w.heap.size, 4, none⟩) (by show _ ≠ w.heap.size; omega) (.int .u64 s2))
      have HW := Lib.hid (own_row5 (own_old HOWN.out x2) (b := w.heap.size) (by omega) (.slice a2 m2 d2) (.int .u64 p2) (.int .u64 t2) (.int .u64 r2) (.int .u64 s2))
      have SW := Lib.hid (own_row5 (own_old SR.out x2) (b := w.heap.size) (by omega) (.slice a2 m2 d2) (.int .u64 p2) (.int .u64 t2) (.int .u64 r2) (.int .u64 s2))
      have XE := Lib.hid (own_ext5 (hext.tr x2) (Nat.le_refl _) (.slice a2 m2 d2) (.int .u64 p2) (.int .u64 t2) (.int .u64 r2) (.int .u64 s2))
      have hzW : T + 1 ≤ (((((v2.setCell ⟨w.heap.size, 0, none⟩ (.slice a2 m2 d2)).setCell ⟨w.heap.size, 1, none⟩ (.int .u64 p2)).setCell ⟨w.heap.size, 2, none⟩ (.int .u64 t2)).setCell ⟨w.heap.size, 3, none⟩ (.int .u64 r2)).setCell ⟨w.heap.size, 4, none⟩ (.int .u64 s2)).heap.size := by have := x2.size; simp at this ⊢; omega
      clear B0 B1 B2 BT HOWN SR c2 f2 x2 hext DR CT1 zk0 zk1 zk2 zk3 zk4 zf0 zf1 zf2 zf3 zf4
      go_upto_region 7 with fail
      generalize (((((v2.setCell ⟨w.heap.size, 0, none⟩ (.slice a2 m2 d2)).setCell ⟨w.heap.size, 1, none⟩ (.int .u64 p2)).setCell ⟨w.heap.size, 2, none⟩ (.int .u64 t2)).setCell ⟨w.heap.size, 3, none⟩ (.int .u64 r2)).setCell ⟨w.heap.size, 4, none⟩ (.int .u64 s2)) = W at *
      have kT := (BYT.out.cell 1).trans (show (#[.slice sa xs.length sc, .slice da k dc] : Array Value)[1]? = some (.slice da k dc) from rfl)
      go_wp2_with (at_builtin; refine (show Hid _ from ?_).out)
      refine Lib.hid ?_
      refine wpList_append_own _ rfl _ _ 24 rfl (T + 1) 2 i0 (.int .i64 0) 1 8 Tryz.underlying24 hi0 hz0 hz1 hz2 rfl (by decide) (.slice da k dc) k (ds.map (Value.int .i64)) rfl (HW.out.alloc _) ⟨W.heap.size, 0, none⟩ 1 1 [.int .i64 (X - A)] rfl rfl (newsC_1 _ _ _) (oneC_1 _ _) hn2 hn3 (by simp; omega) ?_
      intro v' w1 hown1 hgrow _
      obtain ⟨gb, cp, rfl, hgb, -⟩ := own_formP hown1
      have ne : ∀ b, b < T + 1 → some b ≠ (Value.slice da k dc).ownBlock := fun b hb e => by have := hrow _ e.symm; omega
      have X9 : Ext w w1 := Ext.grown (XE.out.alloc _) hgrow (fun r hr => by have := hrow r hr; omega)
      have B0' := Lib.hid (((BX.out.alloc _).grown hgrow (ne _ (by omega))).far (p := ⟨T, 1, none⟩) (by show _ ≠ T; omega) (.slice (some ⟨gb, 0, none⟩) (k + 1) cp))
      have B1' := Lib.hid (((BY1.out.alloc _).grown hgrow (ne _ (by omega))).far (p := ⟨T, 1, none⟩) (by show _ ≠ T; omega) (.slice (some ⟨gb, 0, none⟩) (k + 1) cp))
      have B2' := Lib.hid (((BY2.out.alloc _).grown hgrow (ne _ (by omega))).far (p := ⟨T, 1, none⟩) (by show _ ≠ T; omega) (.slice (some ⟨gb, 0, none⟩) (k + 1) cp))
      have BTg := (BYT.out.alloc (.cells #[.int .i64 (X - A)] 2)).grown hgrow (ne _ (by omega))
      have kT0 := (BTg.cell 1).trans (show (#[.slice sa xs.length sc, .slice da k dc] : Array Value)[1]? = some (.slice da k dc) from rfl)
      have fT0 := BTg.frozen 1
      have BT' := Lib.hid (BTg.set_ 1 (.slice (some ⟨gb, 0, none⟩) (k + 1) cp))
      have S' := Lib.hid (own_far ((SW.out.alloc (.cells #[.int .i64 (X - A)] 2)).kept hgrow (by
        cases hb : (Value.slice sa xs.length sc).ownBlock with
        | none => exact .inl rfl
        | some b => exact .inr (fun e => by have := SL.out b hb; have := hrow b e.symm; omega))) (b := T) (fun e => by have := SL.out _ e; omega) 1 (.slice (some ⟨gb, 0, none⟩) (k + 1) cp))
      have HO := Lib.hid (own_far hown1 (b := T) (fun e => by simp [Value.ownBlock] at e; omega) 1 (.slice (some ⟨gb, 0, none⟩) (k + 1) cp))
      have XF := Lib.hid (X9.setCell (p := ⟨T, 1, none⟩) (by show _ ≤ T; omega) (.slice (some ⟨gb, 0, none⟩) (k + 1) cp))
      have hVz : T + 1 ≤ (w1.setCell ⟨T, 1, none⟩ (.slice (some ⟨gb, 0, none⟩) (k + 1) cp)).heap.size := by have := hgrow.size; simp at this ⊢; omega
      clear hgrow hown1 BTg hrow ne X9 BX BY1 BY2 BYT HW SW XE kT
      go_wp2_with fail
      go_roundw
      case rel => exact ⟨k + 1, _, _, a2, m2, d2, p2, t2, r2, s2, _, _, by omega, by go_num, NX.out, B0'.out, BT'.out, by rw [List.map_append]; exact HO.out, S'.out, B1'.out, B2'.out, h2.out, FG2.out, hVz, XF.out⟩
      case measure => simp [intOf]; omega
    · obtain rfl : n = k := by omega
      have hkz : ¬ (n : Int) < (n : Int) := by omega
      have zk0 := (b0.cell 0).trans (show (rv a m c p t r s)[0]? = some (.slice a m c) from rfl)
      have zk1 := (b0.cell 1).trans (show (rv a m c p t r s)[1]? = some (.int .u64 p) from rfl)
      have zk2 := (b0.cell 2).trans (show (rv a m c p t r s)[2]? = some (.int .u64 t) from rfl)
      have zk3 := (b0.cell 3).trans (show (rv a m c p t r s)[3]? = some (.int .u64 r) from rfl)
      have zk4 := (b0.cell 4).trans (show (rv a m c p t r s)[4]? = some (.int .u64 s) from rfl)
      have zf0 := b0.frozen 0
      have zf1 := b0.frozen 1
      have zf2 := b0.frozen 2
      have zf3 := b0.frozen 3
      have zf4 := b0.frozen 4
      have j0 := (b2.cell 0).trans (show (rv none 0 0 0 0 0 0)[0]? = some (.slice none 0 0) from rfl)
      have jf0 := b2.frozen 0
      have j1 := (b2.cell 1).trans (show (rv none 0 0 0 0 0 0)[1]? = some (.int .u64 0) from rfl)
      have jf1 := b2.frozen 1
      have j2 := (b2.cell 2).trans (show (rv none 0 0 0 0 0 0)[2]? = some (.int .u64 0) from rfl)
      have jf2 := b2.frozen 2
      have j3 := (b2.cell 3).trans (show (rv none 0 0 0 0 0 0)[3]? = some (.int .u64 0) from rfl)
      have jf3 := b2.frozen 3
      have j4 := (b2.cell 4).trans (show (rv none 0 0 0 0 0 0)[4]? = some (.int .u64 0) from rfl)
      have jf4 := b2.frozen 4
      have CT1 := Lib.hid (CT.out wr hext)
      have t0 := (bT.cell 0).trans (show (#[.slice sa xs.length sc, .slice da n dc] : Array Value)[0]? = some (.slice sa xs.length sc) from rfl)
      have t1 := (bT.cell 1).trans (show (#[.slice sa xs.length sc, .slice da n dc] : Array Value)[1]? = some (.slice da n dc) from rfl)
      have l0 := (b1.cell 0).trans (show (#[.slice none 0 0, .slice none 0 0] : Array Value)[0]? = some (.slice none 0 0) from rfl)
      have l1 := (b1.cell 1).trans (show (#[.slice none 0 0, .slice none 0 0] : Array Value)[1]? = some (.slice none 0 0) from rfl)
      have lf0 := b1.frozen 0
      have lf1 := b1.frozen 1
      clear hG hown sr b0 b1 b2 bT hFG BL
      go_wp2_with fail
      refine (CT1.out).mono ?_
      rintro e w' ⟨rfl, rfl⟩
      go_wp2_with fail
      go_region
      all_goals
        go_wp2
        have E1 : (fillG A n g).1 = ds := by rw [HG.out]
        have E2 : (fillG A n g).2 = G := by rw [HG.out]
        have RF : Hid (RandAt w0 (.agg #[.slice a m c, .int .u64 p, .int .u64 t, .int .u64 r, .int .u64 s]) (fillG A n g).2) := Lib.hid (by rw [E2]; exact hr)
        have OF := Lib.hid (own_base (own_row5 (own_setF (own_setF HOWN.out (b := w.heap.size + 1) (o := 0) (u := .slice sa xs.length sc) (by omega)) (b := w.heap.size + 1) (o := 1) (u := .slice da n dc) (by omega)) (b := w.heap.size + 1 + 1) (by omega) (.slice a m c) (.int .u64 p) (.int .u64 t) (.int .u64 r) (.int .u64 s)) (show w.heap.size + 1 + 1 + 1 ≤ T + 1 by omega))
        have SF := Lib.hid (own_row5 (own_setF (own_setF SR.out (b := w.heap.size + 1) (o := 0) (u := .slice sa xs.length sc) (by omega)) (b := w.heap.size + 1) (o := 1) (u := .slice da n dc) (by omega)) (b := w.heap.size + 1 + 1) (by omega) (.slice a m c) (.int .u64 p) (.int .u64 t) (.int .u64 r) (.int .u64 s))
        rw [← E1] at OF
        have XF := Lib.hid (own_ext5 ((hext.setCell (p := ⟨w.heap.size + 1, 0, none⟩) (by simp) (.slice sa xs.length sc)).setCell (p := ⟨w.heap.size + 1, 1, none⟩) (by simp) (.slice da n dc)) (b := w.heap.size + 1 + 1) (by omega) (.slice a m c) (.int .u64 p) (.int .u64 t) (.int .u64 r) (.int .u64 s))
        clear hr HG E1 E2 HOWN SR B0 B1 B2 BT hext SL
        simp [bodyPost, results, Tryz.results46, go_sem, *]
        exact ⟨sa, sc, da, dc, a, m, c, p, t, r, s, ⟨⟨⟨rfl, rfl⟩, rfl, rfl⟩, ⟨rfl, rfl, rfl⟩, rfl, rfl, rfl, rfl⟩, Ext.drew XF.out, Lib.hid ⟨own_drew SF.out, own_drew OF.out⟩, RF⟩
end Go.Proofs.YtkegefnpmijfiaaGreat
namespace Go.Proofs.YtkegefnpmijfiaaGreat
open Go.RowKit
attribute [local go_sem ↓] Go.wp_at_zero Go.wp_at_succ
/-- A tensor in new memory. -/
structure TenNew (base : Nat) (w : World) (s d : Value) (xs ds : List Int) : Prop where
  rs : w.ownsRow base 3 1 s xs.length (xs.map (Value.int .i64))
  rd : w.ownsRow base 2 1 d ds.length (ds.map (Value.int .i64))
  ap : ∀ b, s.ownBlock = some b → d.ownBlock ≠ some b
theorem own_set2 {w : World} {base b o : Nat} {e : TypeId} {v u : Value} {n : Nat} {xs : List Value} (h : w.ownsRow base e 1 v n xs) (hb : b < base) : (w.setCell ⟨b, o, none⟩ u).ownsRow base e 1 v n xs := ownsRow_setCell_below h hb _
theorem TenNew.row_s {base : Nat} {w : World} {s d : Value} {xs ds : List Int} (h : TenNew base w s d xs ds) : Row .i64 w s xs := (Row.of_owns h.rs).1
theorem TenNew.row_d {base : Nat} {w : World} {s d : Value} {xs ds : List Int} (h : TenNew base w s d xs ds) : Row .i64 w d ds := (Row.of_owns h.rd).1
theorem TenNew.ext {base : Nat} {w w' : World} {s d : Value} {xs ds : List Int} (h : TenNew base w s d xs ds) (x : Ext w w') : TenNew base w' s d xs ds := ⟨own_old h.rs x, own_old h.rd x, h.ap⟩
theorem TenNew.base {base base' : Nat} {w : World} {s d : Value} {xs ds : List Int} (h : TenNew base w s d xs ds) (hb : base' ≤ base) : TenNew base' w s d xs ds := ⟨own_base h.rs hb, own_base h.rd hb, h.ap⟩
theorem TenNew.set {base b o : Nat} {w : World} {s d u : Value} {xs ds : List Int} (h : TenNew base w s d xs ds) (hb : b < base) : TenNew base (w.setCell ⟨b, o, none⟩ u) s d xs ds := ⟨own_set2 h.rs hb, own_set2 h.rd hb, h.ap⟩
set_option maxHeartbeats 1000000 in
theorem eqT_any {s d s' d' : Value} {xs ds ys es : List Int} {w : World} (hs : Row .i64 w s xs) (hd : Row .i64 w d ds) (hs' : Row .i64 w s' ys) (hd' : Row .i64 w d' es) :
    Calls Tryz.prog 21 #[.agg #[s, d], .agg #[s', d']] w fun e w' => e = .returned (.bool (decide (xs = ys ∧ ds = es))) ∧ Ext w w' := by
  have EN := Lib.hid (fun u (x : Ext w u) => eqNumbers_any (hs.ext x) (hs'.ext x))
  have EW := Lib.hid (fun u (x : Ext w u) => eqWords_any (hd.ext x) (hd'.ext x))
  obtain ⟨a, ca, rfl, la⟩ := hs.form'
  obtain ⟨b, cb, rfl, lb⟩ := hd.form'
  obtain ⟨a', ca', rfl, la'⟩ := hs'.form'
  obtain ⟨b', cb', rfl, lb'⟩ := hd'.form'
  clear hs hd hs' hd'
  by_cases h : xs = ys
  · have E := Lib.hid (show decide (xs = ys ∧ ds = es) = decide (ds = es) by simp [h])
    rw [show decide (xs = ys) = true by simpa using h] at EN
    clear h
    go_enter Tryz.func21, Tryz.ntmps21
    go_wp2_with fail
    refine (EN.out _ Ext.q).mono ?_
    rintro e w' ⟨rfl, n1, rfl⟩
    go_wp2_with fail
    refine (EW.out _ Ext.q).mono ?_
    rintro e w' ⟨rfl, n2, rfl⟩
    go_wp2
    go_ret
    exact ⟨by rw [E.out]; rfl, Ext.q⟩
  · have E := Lib.hid (show decide (xs = ys ∧ ds = es) = false by simp [h])
    rw [show decide (xs = ys) = false by simpa using h] at EN
    clear h
    go_enter Tryz.func21, Tryz.ntmps21
    go_wp2_with fail
    refine (EN.out _ Ext.q).mono ?_
    rintro e w' ⟨rfl, n1, rfl⟩
    go_wp2
    go_ret
    exact ⟨by rw [E.out]; rfl, Ext.q⟩
theorem eqT_same {s d s' d' : Value} {xs ds : List Int} {w : World} (hs : Row .i64 w s xs) (hd : Row .i64 w d ds) (hs' : Row .i64 w s' xs) (hd' : Row .i64 w d' ds) :
    Calls Tryz.prog 21 #[.agg #[s, d], .agg #[s', d']] w fun e w' => e = .returned (.bool true) ∧ Ext w w' :=
  (eqT_any hs hd hs' hd').mono (by rintro e w' ⟨rfl, x⟩; exact ⟨by simp, x⟩)
/-- Integers, and what lies behind them in the block. -/
def tl (l : List Int) (rest : List Value) : Array Value := (l.map (Value.int .i64) ++ rest).toArray
end Go.Proofs.YtkegefnpmijfiaaGreat
namespace Go.Proofs.YtkegefnpmijfiaaGreat
open Go.RowKit
attribute [local go_sem ↓] Go.wp_at_zero Go.wp_at_succ
/-- Nothing but the blocks that P tells, and new ones, is turned. -/
structure Spl (P : Nat → Prop) (w w' : World) : Prop where
  os : w'.os = w.os
  tape : w'.tape = w.tape
  output : w'.output = w.output
  size : w.heap.size ≤ w'.heap.size
  block : ∀ b, b < w.heap.size → ¬ P b → w'.heap[b]? = w.heap[b]?
section
variable {P : Nat → Prop} {a b c : World}
theorem Spl.of_grown {row : Option Nat} (h : a.grownBy b row) (hP : ∀ r, row = some r → P r) : Spl P a b :=
  ⟨h.os, h.tape, h.output, h.size, fun i hi hn => h.block i hi (fun e => hn (hP i e.symm))⟩
theorem Spl.of_ext (h : Ext a b) : Spl P a b := ⟨h.os, h.tape, h.output, h.size, fun i hi _ => h.block i hi⟩
theorem Spl.trans (h : Spl P a b) (k : Spl P b c) : Spl P a c :=
  ⟨k.os.trans h.os, k.tape.trans h.tape, k.output.trans h.output, Nat.le_trans h.size k.size, fun i hi hn => (k.block i (Nat.lt_of_lt_of_le hi h.size) hn).trans (h.block i hi hn)⟩
theorem Spl.blk {g : Nat} {t : TypeId} {cs : Array Value} (h : Spl P a b) (hb : Blk a g t cs) (hn : ¬ P g) : Blk b g t cs := (h.block g hb.lt hn).trans hb
theorem Spl.ext (h : Spl P b c) (x : Ext a b) (hn : ∀ i, i < a.heap.size → ¬ P i) : Ext a c :=
  ⟨h.os.trans x.os, h.tape.trans x.tape, h.output.trans x.output, Nat.le_trans x.size h.size, fun i hi => (h.block i (Nat.lt_of_lt_of_le hi x.size) (hn i hi)).trans (x.block i hi)⟩
end
set_option maxHeartbeats 2000000 in
theorem numbers8_any {v : Value} {n : Nat} {xs : List Value} {w : World} {base : Nat} (h : w.ownsRow base 3 1 v n xs) (hn : n ≤ 100000) (hb : base ≤ w.heap.size) :
    Calls Tryz.prog 171 #[v] w fun e w' => e = .returned (.tuple #[]) ∧ w.grownBy w' v.ownBlock := by
  obtain ⟨i0, hi0, hz0, hz1, hz2⟩ := info_parts infoI
  obtain ⟨a, c, rfl⟩ := own_sl h
  have HO := Lib.hid h
  clear h
  go_enter Tryz.func171, Tryz.ntmps171
  go_wp2_with fail
  go_loopw [2] (fun i wr => ∃ (k : Nat) (ys : List Value), k ≤ n ∧ i = .int .i64 k ∧ wr.ownsRow base 3 1 (.slice a n c) n ys ∧ w.grownBy wr (Value.slice a n c).ownBlock) (fun i _ => n - (intOf i).toNat)
  case atStart => exact ⟨0, xs, Nat.zero_le _, rfl, HO.out, World.grownBy.refl _ _⟩
  case round =>
    obtain ⟨k, ys, hk, rfl, hown, hbel⟩ := hrel
    have HB := Lib.hid hbel
    have zb := hbel.size
    clear hbel
    rcases Nat.lt_or_ge k n with hlt | hge
    · have hlz : (k : Int) < (n : Int) := by omega
      obtain ⟨g, cap, e, hg, -⟩ := own_form1 hown (by omega)
      cases e
      have hl : ys.length = n := by simpa using hown.1
      have kc : wr.cell? ⟨g, k, none⟩ = some (ys[k]'(by omega)) := by rw [hown.cellAt k (by omega)]; exact List.getElem?_eq_getElem (by omega)
      have kf := hown.frozenAt k
      have zg := cell_lt kc
      simp only at zg
      have O2 := Lib.hid (hown.stored k (.int .i64 (-99)))
      generalize ys[k] = y at *
      clear hown
      go_wp2_with fail
      exact ⟨⟨k + 1, _, by omega, by go_num, O2.out.1, HB.out.trans O2.out.2⟩, by simp [intOf]; omega⟩
    · have hlz : ¬ (k : Int) < (n : Int) := by omega
      have hrow := hown.lt
      have hn2 : n + 1 ≤ maxLen := by unfold maxLen; omega
      have hn3 : (n + 1) * 8 ≤ 140737488355328 := by omega
      go_wp2_with (at_builtin; refine wpList_append_own _ rfl _ _ 23 rfl base 3 i0 _ 1 8 Tryz.underlying23 hi0 hz0 hz1 hz2 rfl (by decide) _ _ _ rfl (hown.alloc _) ⟨wr.heap.size, 0, none⟩ 1 1 [.int .i64 5] rfl rfl (newsC_1 _ _ _) (by simp [Value.oneCell']) hn2 hn3 (by simp; omega) ?_; intro v' w1 hown1 hgrow _)
      have X1 : w.grownBy w1 (Value.slice a n c).ownBlock := (HB.out.trans (World.grownBy_alloc wr _ _)).trans hgrow
      clear hown hgrow hrow hown1
      go_wp2_with fail
      (try rw [Exit.noGoto_ret])
      simp [bodyPost, results, Tryz.results171, go_sem]
      exact X1
set_option maxHeartbeats 2000000 in
theorem words8_any {v : Value} {n : Nat} {xs : List Value} {w : World} {base : Nat} (h : w.ownsRow base 2 1 v n xs) (hn : n ≤ 100000) (hb : base ≤ w.heap.size) :
    Calls Tryz.prog 172 #[v] w fun e w' => e = .returned (.tuple #[]) ∧ w.grownBy w' v.ownBlock := by
  obtain ⟨i0, hi0, hz0, hz1, hz2⟩ := info_parts i64_info'
  obtain ⟨a, c, rfl⟩ := own_sl h
  have HO := Lib.hid h
  clear h
  go_enter Tryz.func172, Tryz.ntmps172
  go_wp2_with fail
  go_loopw [2] (fun i wr => ∃ (k : Nat) (ys : List Value), k ≤ n ∧ i = .int .i64 k ∧ wr.ownsRow base 2 1 (.slice a n c) n ys ∧ w.grownBy wr (Value.slice a n c).ownBlock) (fun i _ => n - (intOf i).toNat)
  case atStart => exact ⟨0, xs, Nat.zero_le _, rfl, HO.out, World.grownBy.refl _ _⟩
  case round =>
    obtain ⟨k, ys, hk, rfl, hown, hbel⟩ := hrel
    have HB := Lib.hid hbel
    have zb := hbel.size
    clear hbel
    rcases Nat.lt_or_ge k n with hlt | hge
    · have hlz : (k : Int) < (n : Int) := by omega
      obtain ⟨g, cap, e, hg, -⟩ := own_form1 hown (by omega)
      cases e
      have hl : ys.length = n := by simpa using hown.1
      have kc : wr.cell? ⟨g, k, none⟩ = some (ys[k]'(by omega)) := by rw [hown.cellAt k (by omega)]; exact List.getElem?_eq_getElem (by omega)
      have kf := hown.frozenAt k
      have zg := cell_lt kc
      simp only at zg
      have O2 := Lib.hid (hown.stored k (.int .i64 (-9999)))
      generalize ys[k] = y at *
      clear hown
      go_wp2_with fail
      exact ⟨⟨k + 1, _, by omega, by go_num, O2.out.1, HB.out.trans O2.out.2⟩, by simp [intOf]; omega⟩
    · have hlz : ¬ (k : Int) < (n : Int) := by omega
      have hrow := hown.lt
      have hn2 : n + 1 ≤ maxLen := by unfold maxLen; omega
      have hn3 : (n + 1) * 8 ≤ 140737488355328 := by omega
      go_wp2_with (at_builtin; refine wpList_append_own _ rfl _ _ 24 rfl base 2 i0 _ 1 8 Tryz.underlying24 hi0 hz0 hz1 hz2 rfl (by decide) _ _ _ rfl (hown.alloc _) ⟨wr.heap.size, 0, none⟩ 1 1 [.int .i64 5] rfl rfl (newsC_1 _ _ _) (by simp [Value.oneCell']) hn2 hn3 (by simp; omega) ?_; intro v' w1 hown1 hgrow _)
      have X1 : w.grownBy w1 (Value.slice a n c).ownBlock := (HB.out.trans (World.grownBy_alloc wr _ _)).trans hgrow
      clear hown hgrow hrow hown1
      go_wp2_with fail
      (try rw [Exit.noGoto_ret])
      simp [bodyPost, results, Tryz.results172, go_sem]
      exact X1
set_option maxRecDepth 100000 in
theorem tensor8_any {s d : Value} {n m : Nat} {xs ys : List Value} {w : World} {base : Nat} (hs : w.ownsRow base 3 1 s n xs) (hd : w.ownsRow base 2 1 d m ys) (ap : ∀ b, s.ownBlock = some b → d.ownBlock ≠ some b) (hn : n ≤ 100000) (hm : m ≤ 100000) (hb : base ≤ w.heap.size) :
    Calls Tryz.prog 95 #[.agg #[s, d]] w fun e w' => e = .returned (.tuple #[]) ∧ Spl (fun b => s.ownBlock = some b ∨ d.ownBlock = some b) w w' := by
  obtain ⟨a1, c1, rfl⟩ := own_sl hs
  obtain ⟨a2, c2, rfl⟩ := own_sl hd
  have HS := Lib.hid (own_old hs (Ext.alloc (Ext.refl w) (.cells #[.slice a1 n c1, .slice a2 m c2] 26)))
  have HD := Lib.hid (own_old hd (Ext.alloc (Ext.refl w) (.cells #[.slice a1 n c1, .slice a2 m c2] 26)))
  have BT := Lib.hid (Blk.new w 26 #[.slice a1 n c1, .slice a2 m c2])
  have AP := Lib.hid ap
  have LS := Lib.hid hs.lt
  have XA := Lib.hid (Ext.alloc (Ext.refl w) (.cells #[.slice a1 n c1, .slice a2 m c2] 26))
  have hsz : base ≤ (w.alloc (.cells #[.slice a1 n c1, .slice a2 m c2] 26)).heap.size := by simp; omega
  clear hs hd ap
  go_enter Tryz.func95, Tryz.ntmps95
  go_wp2_with fail
  refine (numbers8_any HS.out hn hsz).mono ?_
  rintro e v1 ⟨rfl, g1⟩
  have hne : some w.heap.size ≠ (Value.slice a1 n c1).ownBlock := fun e => by have := (LS.out _ e.symm).2; omega
  have BT1 := BT.out.grown g1 hne
  have k1 := (BT1.cell 1).trans (show (#[.slice a1 n c1, .slice a2 m c2] : Array Value)[1]? = some _ from rfl)
  have HD1 := Lib.hid (HD.out.kept g1 (by
    cases hb2 : (Value.slice a2 m c2).ownBlock with
    | none => exact .inl rfl
    | some b => exact .inr (fun e => AP.out b e.symm hb2)))
  have G1 := Lib.hid g1
  have hs1 : base ≤ v1.heap.size := by have := g1.size; omega
  clear g1 BT1 BT HD HS
  go_wp2_with fail
  refine (words8_any HD1.out hm hs1).mono ?_
  rintro e v2 ⟨rfl, g2⟩
  have G2 := Lib.hid g2
  clear g2 HD1 k1
  go_wp2_with fail
  (try rw [Exit.noGoto_ret])
  simp [bodyPost, results, Tryz.results95, go_sem]
  exact (Spl.of_ext XA.out).trans ((Spl.of_grown G1.out (fun r h => .inl h)).trans (Spl.of_grown G2.out (fun r h => .inr h)))
theorem num8_any (a : Int) (w : World) : Calls Tryz.prog 94 #[.int .i64 a] w fun e w' => e = .returned (.int .i64 a) ∧ w = w' := by
  go_enter Tryz.func94, Tryz.ntmps94
  go_wp2
  go_ret
  exact ⟨rfl, rfl⟩
set_option maxRecDepth 100000 in
set_option maxHeartbeats 2000000 in
/-- An answer that is the wanted one is told so, and written over. -/
theorem is8_ok {s d sv dv : Value} {n m : Nat} {xs ds : List Int} {w : World} {base : Nat} (hs : w.ownsRow base 3 1 s n (xs.map (Value.int .i64))) (hd : w.ownsRow base 2 1 d m (ds.map (Value.int .i64))) (ap : ∀ b, s.ownBlock = some b → d.ownBlock ≠ some b) (hn : n ≤ 100000) (hm : m ≤ 100000) (hb : base ≤ w.heap.size)
    (h1 : Row .i64 w sv xs) (h2 : Row .i64 w dv ds) :
    Calls Tryz.prog 20 #[.agg #[s, d], .int .i64 0, .agg #[sv, dv], .int .i64 0] w fun e w' => e = .returned (.bool true) ∧ Spl (fun b => s.ownBlock = some b ∨ d.ownBlock = some b) w w' := by
  have EQ := Lib.hid (fun u (x : Ext w u) => eqT_same ((Row.of_owns hs).1.ext x) ((Row.of_owns hd).1.ext x) (h1.ext x) (h2.ext x))
  have TN := Lib.hid (fun u (x : Ext w u) => tensor8_any (own_old hs x) (own_old hd x) ap hn hm (by have := x.size; omega))
  obtain ⟨a1, c1, rfl⟩ := own_sl hs
  obtain ⟨a2, c2, rfl⟩ := own_sl hd
  obtain ⟨a3, c3, rfl, -⟩ := h1.form'
  obtain ⟨a4, c4, rfl, -⟩ := h2.form'
  clear hs hd h1 h2 ap hb
  go_enter Tryz.func20, Tryz.ntmps20
  go_wp2_with fail; refine (num8_any _ _).mono ?_; rintro e w' ⟨rfl, rfl⟩
  go_wp2_with fail
  refine (EQ.out _ Ext.q).mono ?_; rintro e v1 ⟨rfl, x1⟩; obtain ⟨c1, f1⟩ := x1.rules; have z1 := x1.size; have lq := fun o => c1 (w.heap.size) o (by first | (simp; done) | (simp; omega) | omega); have mq := fun o => f1 (w.heap.size) o (by first | (simp; done) | (simp; omega) | omega); have k1_0_0 := lq 0; have q1_0_0 := mq 0; have k1_0_1 := lq 1; have q1_0_1 := mq 1; clear lq mq; have lq := fun o => c1 (w.heap.size + 1) o (by first | (simp; done) | (simp; omega) | omega); have mq := fun o => f1 (w.heap.size + 1) o (by first | (simp; done) | (simp; omega) | omega); have k1_1_0 := lq 0; have q1_1_0 := mq 0; have k1_1_1 := lq 1; have q1_1_1 := mq 1; clear lq mq; have z1_0 : w.heap.size < v1.heap.size := (by (try simp at z1); omega); have z1_1 : w.heap.size + 1 < v1.heap.size := (by (try simp at z1); omega); (try simp at z1); clear c1 f1; simp [go_sem, *] at k1_0_0 q1_0_0 k1_0_1 q1_0_1 k1_1_0 q1_1_0 k1_1_1 q1_1_1
  go_wp2_with fail
  have xw : Ext w v1 := Ext.q
  refine (TN.out _ xw).mono ?_
  rintro e v2 ⟨rfl, sp⟩
  have SP := Lib.hid sp
  clear sp EQ TN
  go_wp2
  go_ret
  exact ⟨rfl, (Spl.of_ext xw).trans SP.out⟩
set_option maxRecDepth 100000 in
set_option maxHeartbeats 2000000 in
theorem is8_no {s d u v : Value} {w : World} (hs : Row .i64 w s []) (hd : Row .i64 w d []) (hu : ∃ a n c, u = .slice a n c) (hv : ∃ a n c, v = .slice a n c) :
    Calls Tryz.prog 20 #[.agg #[s, d], .int .i64 1, .agg #[u, v], .int .i64 1] w fun e w' => e = .returned (.bool true) ∧ Ext w w' := by
  obtain ⟨a3, n3, c3, rfl⟩ := hu
  obtain ⟨a4, n4, c4, rfl⟩ := hv
  have EQ := Lib.hid (fun u (x : Ext w u) => eqT_same (hs.ext x) (hd.ext x) (Row.nil .i64 u) (Row.nil .i64 u))
  obtain ⟨a1, c1, rfl, -⟩ := hs.form'
  obtain ⟨a2, c2, rfl, -⟩ := hd.form'
  clear hs hd
  go_enter Tryz.func20, Tryz.ntmps20
  go_wp2_with fail; refine (num8_any _ _).mono ?_; rintro e w' ⟨rfl, rfl⟩
  go_wp2_with fail
  refine (EQ.out _ Ext.q).mono ?_; rintro e v1 ⟨rfl, x1⟩; obtain ⟨c1, f1⟩ := x1.rules; have z1 := x1.size; have lq := fun o => c1 (w.heap.size) o (by first | (simp; done) | (simp; omega) | omega); have mq := fun o => f1 (w.heap.size) o (by first | (simp; done) | (simp; omega) | omega); have k1_0_0 := lq 0; have q1_0_0 := mq 0; have k1_0_1 := lq 1; have q1_0_1 := mq 1; clear lq mq; have lq := fun o => c1 (w.heap.size + 1) o (by first | (simp; done) | (simp; omega) | omega); have mq := fun o => f1 (w.heap.size + 1) o (by first | (simp; done) | (simp; omega) | omega); have k1_1_0 := lq 0; have q1_1_0 := mq 0; have k1_1_1 := lq 1; have q1_1_1 := mq 1; clear lq mq; have z1_0 : w.heap.size < v1.heap.size := (by (try simp at z1); omega); have z1_1 : w.heap.size + 1 < v1.heap.size := (by (try simp at z1); omega); (try simp at z1); clear c1 f1; simp [go_sem, *] at k1_0_0 q1_0_0 k1_0_1 q1_0_1 k1_1_0 q1_1_0 k1_1_1 q1_1_1
  go_wp2
  go_ret
  exact ⟨rfl, Ext.q⟩
end Go.Proofs.YtkegefnpmijfiaaGreat
namespace Go.Proofs.YtkegefnpmijfiaaGreat
open Go.RowKit
attribute [local go_sem ↓] Go.wp_at_zero Go.wp_at_succ
def gen00 : Gen := ⟨[], ⟨0, 0, 0, 0⟩⟩
theorem gen00_at (w : World) : RandAt w (.agg #[.slice none 0 0, .int .u64 0, .int .u64 0, .int .u64 0, .int .u64 0]) gen00 := ⟨none, 0, by simp [gen00, iv], Row.nil _ _⟩
theorem gen00_new (b : Nat) (w : World) : RandNew b w (.agg #[.slice none 0 0, .int .u64 0, .int .u64 0, .int .u64 0, .int .u64 0]) gen00 := ⟨none, 0, by simp [gen00, iv], World.ownsRow_nil _ _ _ _⟩
def wantS (ok : Bool) (ss : List Int) : List Int := if ok then ss else []
noncomputable def wantD (ok : Bool) (z : Int) (n : Nat) (g : Gen) : List Int := if ok then (fillG z n g).1 else []
noncomputable def wantG (ok : Bool) (z : Int) (n : Nat) (g : Gen) : Gen := if ok then (fillG z n g).2 else gen00
noncomputable def wantO (ok : Bool) (n : Nat) (g : Gen) : List Int := if ok then shufAt n g (n - 1) else []
noncomputable def wantT (ok : Bool) (n : Nat) (g : Gen) : Gen := if ok then g.turn n (n - 1) else gen00
noncomputable def wantM (ok : Bool) (q : Int) (n : Nat) (g : Gen) : List Int := if ok then (masks q n [] g).1 else []
noncomputable def wantU (ok : Bool) (q : Int) (n : Nat) (g : Gen) : Gen := if ok then (masks q n [] g).2 else gen00
/-- The error of what may be, or may not. -/
def er (ok : Bool) : Int := if ok then 0 else 1
/-- The document's tensor: its rows in new memory. -/
structure OwnT (base : Nat) (w : World) (s d : Value) (xs ds : List Int) : Prop where
  rs : w.ownsRow base 3 1 s xs.length (xs.map (Value.int .i64))
  rd : w.ownsRow base 2 1 d ds.length (ds.map (Value.int .i64))
theorem OwnT.ext {base : Nat} {w w' : World} {s d : Value} {xs ds : List Int} (h : OwnT base w s d xs ds) (x : Ext w w') : OwnT base w' s d xs ds := ⟨own_old h.rs x, own_old h.rd x⟩
theorem OwnT.base {base b : Nat} {w : World} {s d : Value} {xs ds : List Int} (h : OwnT base w s d xs ds) (hb : b ≤ base) : OwnT b w s d xs ds := ⟨own_base h.rs hb, own_base h.rd hb⟩
theorem OwnT.set {base b o : Nat} {w : World} {s d u : Value} {xs ds : List Int} (h : OwnT base w s d xs ds) (hb : b < base) : OwnT base (w.setCell ⟨b, o, none⟩ u) s d xs ds := ⟨own_setF h.rs hb, own_setF h.rd hb⟩
theorem OwnT.nil (base : Nat) (w : World) : OwnT base w (.slice none 0 0) (.slice none 0 0) [] [] := ⟨World.ownsRow_nil _ _ _ _, World.ownsRow_nil _ _ _ _⟩
theorem OwnT.row_s {base : Nat} {w : World} {s d : Value} {xs ds : List Int} (h : OwnT base w s d xs ds) : Row .i64 w s xs := (Row.of_owns h.rs).1
theorem OwnT.row_d {base : Nat} {w : World} {s d : Value} {xs ds : List Int} (h : OwnT base w s d xs ds) : Row .i64 w d ds := (Row.of_owns h.rd).1
theorem TenG.new {base g c n : Nat} {w : World} {a : Option Addr} {xs ds : List Int} (h : TenG base w a c xs g ds) (hl : ds.length = n) (hn : n ≤ 65536) : TenNew base w (.slice a xs.length c) (.slice (some ⟨g, 0, none⟩) n n) xs ds :=
  ⟨h.rs, by
    rw [hl]
    exact own_of_cur h.bd (by simp [ints, hl]) (Nat.le_refl _) (by unfold maxLen; omega) (by simp [ints]; exact List.take_of_length_le (by simp [hl])) h.lo, fun b h1 h2 => by
    simp only [Value.ownBlock] at h2
    cases h2
    exact h.ap h1⟩
section
variable {v s : Value} {xs : List Int} {g : Gen} {w : World}
theorem xavier_all {In Out f : Int} (h : RandAt w v g) (hF : ∀ x ∈ g.script, 0 ≤ x) (hs : Row .i64 w s xs) (A : Bool) (hA : A = (goodG g && shp xs && fanB In && fanB Out && gdF f)) (n : Nat) (hn : shp xs = true → pr xs = n) (z : Int) (hz : A = true → NearRoot (dv 6 (In + Out) f * p2 f) 1 z) :
    Calls Tryz.prog 42 #[v, s, .int .i64 In, .int .i64 Out, .int .i64 f] w fun e w' => ∃ (sa : Option Addr) (sn sc : Nat) (da : Option Addr) (dn dc : Nat) (a : Option Addr) (m c : Nat) (p q t u : Int), e = .returned (.tuple #[.agg #[.slice sa sn sc, .slice da dn dc], .agg #[.slice a m c, .int .u64 p, .int .u64 q, .int .u64 t, .int .u64 u], .int .i64 (er A)]) ∧ Ext w w' ∧ Hid (TenNew (w.heap.size + 1) w' (.slice sa sn sc) (.slice da dn dc) (wantS A xs) (wantD A z n g)) ∧ Hid (RandNew (w.heap.size + 1) w' (.agg #[.slice a m c, .int .u64 p, .int .u64 q, .int .u64 t, .int .u64 u]) (wantG A z n g)) := by
  cases A with
  | false => exact (xavier_bad h hs hA.symm).mono (by
      rintro e w' ⟨rfl, x⟩
      exact ⟨none, 0, 0, none, 0, 0, none, 0, 0, 0, 0, 0, 0, rfl, x, Lib.hid ⟨World.ownsRow_nil _ _ _ _, World.ownsRow_nil _ _ _ _, fun b hb => by cases hb⟩, Lib.hid (gen00_new _ _)⟩)
  | true =>
    have hA' := hA.symm
    simp only [Bool.and_eq_true] at hA'
    obtain ⟨⟨⟨⟨h1, h2⟩, h3⟩, h4⟩, h5⟩ := hA'
    have hn' := hn h2
    have hn2 := (shp_dims h2).2
    exact (xavier_ok h ⟨h1, hF⟩ hs h2 n hn' h3 h4 h5).mono (by
      rintro e w' ⟨r, a1, c1, g2, a, m, c, p, q, t, u, rfl, x, nr, tg, rn⟩
      obtain rfl := near_root_only (by decide) nr.out.1 (hz rfl)
      exact ⟨_, _, _, _, _, _, a, m, c, p, q, t, u, rfl, x, Lib.hid (tg.out.new (fillG_len _ _ _) (by omega)), rn⟩)
theorem he_all {In f : Int} (h : RandAt w v g) (hF : ∀ x ∈ g.script, 0 ≤ x) (hs : Row .i64 w s xs) (A : Bool) (hA : A = (goodG g && shp xs && fanB In && gdF f)) (n : Nat) (hn : shp xs = true → pr xs = n) (z : Int) (hz : A = true → NearRoot (dv 6 In f * p2 f) 1 z) :
    Calls Tryz.prog 50 #[v, s, .int .i64 In, .int .i64 f] w fun e w' => ∃ (sa : Option Addr) (sn sc : Nat) (da : Option Addr) (dn dc : Nat) (a : Option Addr) (m c : Nat) (p q t u : Int), e = .returned (.tuple #[.agg #[.slice sa sn sc, .slice da dn dc], .agg #[.slice a m c, .int .u64 p, .int .u64 q, .int .u64 t, .int .u64 u], .int .i64 (er A)]) ∧ Ext w w' ∧ Hid (TenNew (w.heap.size + 1) w' (.slice sa sn sc) (.slice da dn dc) (wantS A xs) (wantD A z n g)) ∧ Hid (RandNew (w.heap.size + 1) w' (.agg #[.slice a m c, .int .u64 p, .int .u64 q, .int .u64 t, .int .u64 u]) (wantG A z n g)) := by
  cases A with
  | false => exact (he_bad h hs hA.symm).mono (by
      rintro e w' ⟨rfl, x⟩
      exact ⟨none, 0, 0, none, 0, 0, none, 0, 0, 0, 0, 0, 0, rfl, x, Lib.hid ⟨World.ownsRow_nil _ _ _ _, World.ownsRow_nil _ _ _ _, fun b hb => by cases hb⟩, Lib.hid (gen00_new _ _)⟩)
  | true =>
    have hA' := hA.symm
    simp only [Bool.and_eq_true] at hA'
    obtain ⟨⟨⟨h1, h2⟩, h3⟩, h5⟩ := hA'
    have hn' := hn h2
    have hn2 := (shp_dims h2).2
    exact (he_ok h ⟨h1, hF⟩ hs h2 n hn' h3 h5).mono (by
      rintro e w' ⟨r, a1, c1, g2, a, m, c, p, q, t, u, rfl, x, nr, tg, rn⟩
      obtain rfl := near_root_only (by decide) nr.out.1 (hz rfl)
      exact ⟨_, _, _, _, _, _, a, m, c, p, q, t, u, rfl, x, Lib.hid (tg.out.new (fillG_len _ _ _) (by omega)), rn⟩)
end
set_option maxRecDepth 100000 in
set_option maxHeartbeats 4000000 in
theorem shuffle_bad {v : Value} {g : Gen} {w : World} {N : Int} (h : RandAt w v g) (hb : (goodG g && fanB N) = false) :
    Calls Tryz.prog 35 #[v, .int .i64 N] w fun e w' => e = .returned (.tuple #[.slice none 0 0, .agg #[.slice none 0 0, .int .u64 0, .int .u64 0, .int .u64 0, .int .u64 0], .int .i64 1]) ∧ Ext w w' := by
  have C0 := Lib.hid (fun u (x : Ext w u) => good_all (h.ext x))
  have C1 := Lib.hid (fun u => seedCount_any N u)
  obtain ⟨a, m, c, p, q, t, u, rfl, -⟩ := h.form
  clear h
  go_enter Tryz.func35, Tryz.ntmps35
  cases e0 : (goodG g)
  · rw [e0] at C0
    clear hb e0
    go_wp2_with fail
    (try go_step3)
    go_wp2_with fail
    refine (C0.out _ Ext.q).mono ?_; rintro e v1 ⟨rfl, x1⟩; obtain ⟨c1, f1⟩ := x1.rules; have z1 := x1.size; have lq := fun o => c1 (w.heap.size) o (by first | (simp; done) | (simp; omega) | omega); have mq := fun o => f1 (w.heap.size) o (by first | (simp; done) | (simp; omega) | omega); have k1_0_0 := lq 0; have q1_0_0 := mq 0; have k1_0_1 := lq 1; have q1_0_1 := mq 1; have k1_0_2 := lq 2; have q1_0_2 := mq 2; have k1_0_3 := lq 3; have q1_0_3 := mq 3; have k1_0_4 := lq 4; have q1_0_4 := mq 4; clear lq mq; have lq := fun o => c1 (w.heap.size + 1) o (by first | (simp; done) | (simp; omega) | omega); have mq := fun o => f1 (w.heap.size + 1) o (by first | (simp; done) | (simp; omega) | omega); have k1_1_0 := lq 0; have q1_1_0 := mq 0; have k1_1_1 := lq 1; have q1_1_1 := mq 1; have k1_1_2 := lq 2; have q1_1_2 := mq 2; have k1_1_3 := lq 3; have q1_1_3 := mq 3; have k1_1_4 := lq 4; have q1_1_4 := mq 4; clear lq mq; have z1_0 : w.heap.size < v1.heap.size := (by (try simp at z1); omega); have z1_1 : w.heap.size + 1 < v1.heap.size := (by (try simp at z1); omega); (try simp at z1); clear c1 f1; simp [go_sem, *] at k1_0_0 q1_0_0 k1_0_1 q1_0_1 k1_0_2 q1_0_2 k1_0_3 q1_0_3 k1_0_4 q1_0_4 k1_1_0 q1_1_0 k1_1_1 q1_1_1 k1_1_2 q1_1_2 k1_1_3 q1_1_3 k1_1_4 q1_1_4
    go_wp2_with fail
    (try go_step3)
    go_wp2
    (try rw [Exit.noGoto_ret])
    (try change bodyPost _ _ _ _ _ _)
    simp [bodyPost, results, Tryz.results35, go_sem, *]
    exact own_ext5 (show Ext w v1 from Ext.q) (b := w.heap.size + 1) (by omega) _ _ _ _ _
  · rw [e0] at C0
    go_wp2_with fail
    (try go_step3)
    go_wp2_with fail
    refine (C0.out _ Ext.q).mono ?_; rintro e v1 ⟨rfl, x1⟩; obtain ⟨c1, f1⟩ := x1.rules; have z1 := x1.size; have lq := fun o => c1 (w.heap.size) o (by first | (simp; done) | (simp; omega) | omega); have mq := fun o => f1 (w.heap.size) o (by first | (simp; done) | (simp; omega) | omega); have k1_0_0 := lq 0; have q1_0_0 := mq 0; have k1_0_1 := lq 1; have q1_0_1 := mq 1; have k1_0_2 := lq 2; have q1_0_2 := mq 2; have k1_0_3 := lq 3; have q1_0_3 := mq 3; have k1_0_4 := lq 4; have q1_0_4 := mq 4; clear lq mq; have lq := fun o => c1 (w.heap.size + 1) o (by first | (simp; done) | (simp; omega) | omega); have mq := fun o => f1 (w.heap.size + 1) o (by first | (simp; done) | (simp; omega) | omega); have k1_1_0 := lq 0; have q1_1_0 := mq 0; have k1_1_1 := lq 1; have q1_1_1 := mq 1; have k1_1_2 := lq 2; have q1_1_2 := mq 2; have k1_1_3 := lq 3; have q1_1_3 := mq 3; have k1_1_4 := lq 4; have q1_1_4 := mq 4; clear lq mq; have z1_0 : w.heap.size < v1.heap.size := (by (try simp at z1); omega); have z1_1 : w.heap.size + 1 < v1.heap.size := (by (try simp at z1); omega); (try simp at z1); clear c1 f1; simp [go_sem, *] at k1_0_0 q1_0_0 k1_0_1 q1_0_1 k1_0_2 q1_0_2 k1_0_3 q1_0_3 k1_0_4 q1_0_4 k1_1_0 q1_1_0 k1_1_1 q1_1_1 k1_1_2 q1_1_2 k1_1_3 q1_1_3 k1_1_4 q1_1_4
    have e1 : (fanB N) = false := by simpa [e0] using hb
    rw [e1] at C1
    clear hb e0 e1
    go_wp2_with fail; refine (C1.out _).mono ?_; rintro e w' ⟨rfl, rfl⟩
    go_wp2_with fail
    (try go_step3)
    go_wp2
    (try rw [Exit.noGoto_ret])
    (try change bodyPost _ _ _ _ _ _)
    simp [bodyPost, results, Tryz.results35, go_sem, *]
    exact own_ext5 (show Ext w v1 from Ext.q) (b := w.heap.size + 1) (by omega) _ _ _ _ _
set_option maxRecDepth 100000 in
set_option maxHeartbeats 4000000 in
theorem mask_bad {v : Value} {g : Gen} {w : World} {N P : Int} (h : RandAt w v g) (hb : (goodG g && fanB N && (decide (0 ≤ P) && decide (P ≤ 99))) = false) :
    Calls Tryz.prog 41 #[v, .int .i64 N, .int .i64 P] w fun e w' => e = .returned (.tuple #[.slice none 0 0, .agg #[.slice none 0 0, .int .u64 0, .int .u64 0, .int .u64 0, .int .u64 0], .int .i64 1]) ∧ Ext w w' := by
  have C0 := Lib.hid (fun u (x : Ext w u) => good_all (h.ext x))
  have C1 := Lib.hid (fun u => seedCount_any N u)
  obtain ⟨a, m, c, p, q, t, u, rfl, -⟩ := h.form
  clear h
  go_enter Tryz.func41, Tryz.ntmps41
  cases e0 : (goodG g)
  · rw [e0] at C0
    clear hb e0
    go_wp2_with fail
    (try go_step3)
    go_wp2_with fail
    refine (C0.out _ Ext.q).mono ?_; rintro e v1 ⟨rfl, x1⟩; obtain ⟨c1, f1⟩ := x1.rules; have z1 := x1.size; have lq := fun o => c1 (w.heap.size) o (by first | (simp; done) | (simp; omega) | omega); have mq := fun o => f1 (w.heap.size) o (by first | (simp; done) | (simp; omega) | omega); have k1_0_0 := lq 0; have q1_0_0 := mq 0; have k1_0_1 := lq 1; have q1_0_1 := mq 1; have k1_0_2 := lq 2; have q1_0_2 := mq 2; have k1_0_3 := lq 3; have q1_0_3 := mq 3; have k1_0_4 := lq 4; have q1_0_4 := mq 4; clear lq mq; have lq := fun o => c1 (w.heap.size + 1) o (by first | (simp; done) | (simp; omega) | omega); have mq := fun o => f1 (w.heap.size + 1) o (by first | (simp; done) | (simp; omega) | omega); have k1_1_0 := lq 0; have q1_1_0 := mq 0; have k1_1_1 := lq 1; have q1_1_1 := mq 1; have k1_1_2 := lq 2; have q1_1_2 := mq 2; have k1_1_3 := lq 3; have q1_1_3 := mq 3; have k1_1_4 := lq 4; have q1_1_4 := mq 4; clear lq mq; have z1_0 : w.heap.size < v1.heap.size := (by (try simp at z1); omega); have z1_1 : w.heap.size + 1 < v1.heap.size := (by (try simp at z1); omega); (try simp at z1); clear c1 f1; simp [go_sem, *] at k1_0_0 q1_0_0 k1_0_1 q1_0_1 k1_0_2 q1_0_2 k1_0_3 q1_0_3 k1_0_4 q1_0_4 k1_1_0 q1_1_0 k1_1_1 q1_1_1 k1_1_2 q1_1_2 k1_1_3 q1_1_3 k1_1_4 q1_1_4
    go_wp2_with fail
    (try go_step3)
    go_wp2
    (try rw [Exit.noGoto_ret])
    (try change bodyPost _ _ _ _ _ _)
    simp [bodyPost, results, Tryz.results41, go_sem, *]
    exact own_ext5 (show Ext w v1 from Ext.q) (b := w.heap.size + 1) (by omega) _ _ _ _ _
  · rw [e0] at C0
    go_wp2_with fail
    (try go_step3)
    go_wp2_with fail
    refine (C0.out _ Ext.q).mono ?_; rintro e v1 ⟨rfl, x1⟩; obtain ⟨c1, f1⟩ := x1.rules; have z1 := x1.size; have lq := fun o => c1 (w.heap.size) o (by first | (simp; done) | (simp; omega) | omega); have mq := fun o => f1 (w.heap.size) o (by first | (simp; done) | (simp; omega) | omega); have k1_0_0 := lq 0; have q1_0_0 := mq 0; have k1_0_1 := lq 1; have q1_0_1 := mq 1; have k1_0_2 := lq 2; have q1_0_2 := mq 2; have k1_0_3 := lq 3; have q1_0_3 := mq 3; have k1_0_4 := lq 4; have q1_0_4 := mq 4; clear lq mq; have lq := fun o => c1 (w.heap.size + 1) o (by first | (simp; done) | (simp; omega) | omega); have mq := fun o => f1 (w.heap.size + 1) o (by first | (simp; done) | (simp; omega) | omega); have k1_1_0 := lq 0; have q1_1_0 := mq 0; have k1_1_1 := lq 1; have q1_1_1 := mq 1; have k1_1_2 := lq 2; have q1_1_2 := mq 2; have k1_1_3 := lq 3; have q1_1_3 := mq 3; have k1_1_4 := lq 4; have q1_1_4 := mq 4; clear lq mq; have z1_0 : w.heap.size < v1.heap.size := (by (try simp at z1); omega); have z1_1 : w.heap.size + 1 < v1.heap.size := (by (try simp at z1); omega); (try simp at z1); clear c1 f1; simp [go_sem, *] at k1_0_0 q1_0_0 k1_0_1 q1_0_1 k1_0_2 q1_0_2 k1_0_3 q1_0_3 k1_0_4 q1_0_4 k1_1_0 q1_1_0 k1_1_1 q1_1_1 k1_1_2 q1_1_2 k1_1_3 q1_1_3 k1_1_4 q1_1_4
    cases e1 : (fanB N)
    · rw [e1] at C1
      clear hb e0 e1
      go_wp2_with fail; refine (C1.out _).mono ?_; rintro e w' ⟨rfl, rfl⟩
      go_wp2_with fail
      (try go_step3)
      go_wp2
      (try rw [Exit.noGoto_ret])
      (try change bodyPost _ _ _ _ _ _)
      simp [bodyPost, results, Tryz.results41, go_sem, *]
      exact own_ext5 (show Ext w v1 from Ext.q) (b := w.heap.size + 1) (by omega) _ _ _ _ _
    · rw [e1] at C1
      go_wp2_with fail; refine (C1.out _).mono ?_; rintro e w' ⟨rfl, rfl⟩
      have e2 : ((decide (0 ≤ P) && decide (P ≤ 99))) = false := by simpa [e0, e1] using hb
      rcases Int.lt_or_le P 0 with hp | hp
      · have d0 : decide (P < 0) = true := by simp; omega
        clear hb e0 e1 e2
        go_wp2_with fail
        (try go_step3)
        go_wp2
        (try rw [Exit.noGoto_ret])
        (try change bodyPost _ _ _ _ _ _)
        simp [bodyPost, results, Tryz.results41, go_sem, *]
        exact own_ext5 (show Ext w v1 from Ext.q) (b := w.heap.size + 1) (by omega) _ _ _ _ _
      · have d0 : decide (P < 0) = false := by simp; omega
        have d1 : decide (99 < P) = true := by simp [hp] at e2; simp; omega
        clear hb e0 e1 e2
        go_wp2_with fail
        (try go_step3)
        go_wp2
        (try rw [Exit.noGoto_ret])
        (try change bodyPost _ _ _ _ _ _)
        simp [bodyPost, results, Tryz.results41, go_sem, *]
        exact own_ext5 (show Ext w v1 from Ext.q) (b := w.heap.size + 1) (by omega) _ _ _ _ _
section
variable {v : Value} {g : Gen} {w : World}
theorem shuf_all {N : Int} (h : RandAt w v g) (hF : ∀ x ∈ g.script, 0 ≤ x) (C : Bool) (hC : C = (goodG g && fanB N)) (n : Nat) (hn : fanB N = true → N = n) :
    Calls Tryz.prog 35 #[v, .int .i64 N] w fun e w' => ∃ (oa : Option Addr) (on oc : Nat) (a : Option Addr) (m c : Nat) (p q t u : Int), e = .returned (.tuple #[.slice oa on oc, .agg #[.slice a m c, .int .u64 p, .int .u64 q, .int .u64 t, .int .u64 u], .int .i64 (er C)]) ∧ Ext w w' ∧ Hid (w'.ownsRow w.heap.size 3 1 (.slice oa on oc) (wantO C n g).length ((wantO C n g).map (Value.int .i64))) ∧ Hid (RandNew w.heap.size w' (.agg #[.slice a m c, .int .u64 p, .int .u64 q, .int .u64 t, .int .u64 u]) (wantT C n g)) := by
  cases C with
  | false => exact (shuffle_bad h hC.symm).mono (by
      rintro e w' ⟨rfl, x⟩
      exact ⟨none, 0, 0, none, 0, 0, 0, 0, 0, 0, rfl, x, Lib.hid (World.ownsRow_nil _ _ _ _), Lib.hid (gen00_new _ _)⟩)
  | true =>
    have hC' := hC.symm
    simp only [Bool.and_eq_true] at hC'
    obtain rfl := hn hC'.2
    have h2 := hC'.2
    simp only [fanB, Bool.and_eq_true, decide_eq_true_eq] at h2
    exact (shuffle_new (n := n) h ⟨hC'.1, hF⟩ (by omega) (by omega) (fun j h1 h2 => few_of (by omega) (by omega))).mono (by
      rintro e w' ⟨E, v', rfl, x, b, hE, r2⟩
      obtain ⟨a, m, c, p, q, r, s, rfl⟩ := r2.at.agg
      refine ⟨_, _, _, a, m, c, p, q, r, s, rfl, x, Lib.hid ?_, Lib.hid r2⟩
      have hl := shufAt_len n g (n - 1)
      show World.ownsRow _ _ _ _ _ (shufAt n g (n - 1)).length ((shufAt n g (n - 1)).map _)
      rw [hl]
      exact own_of_cur b (by simp [ints, hl]) (Nat.le_refl _) (by unfold maxLen; omega) (by simp [ints]; exact List.take_of_length_le (by simp [hl])) hE)
theorem msk_all {N P : Int} (h : RandAt w v g) (hF : ∀ x ∈ g.script, 0 ≤ x) (C : Bool) (hC : C = (goodG g && fanB N && (decide (0 ≤ P) && decide (P ≤ 99)))) (n : Nat) (hn : fanB N = true → N = n) :
    Calls Tryz.prog 41 #[v, .int .i64 N, .int .i64 P] w fun e w' => ∃ (oa : Option Addr) (on oc : Nat) (a : Option Addr) (m c : Nat) (p q t u : Int), e = .returned (.tuple #[.slice oa on oc, .agg #[.slice a m c, .int .u64 p, .int .u64 q, .int .u64 t, .int .u64 u], .int .i64 (er C)]) ∧ Ext w w' ∧ Hid (w'.ownsRow w.heap.size 3 1 (.slice oa on oc) (wantM C P n g).length ((wantM C P n g).map (Value.int .i64))) ∧ Hid (RandNew w.heap.size w' (.agg #[.slice a m c, .int .u64 p, .int .u64 q, .int .u64 t, .int .u64 u]) (wantU C P n g)) := by
  cases C with
  | false => exact (mask_bad h hC.symm).mono (by
      rintro e w' ⟨rfl, x⟩
      exact ⟨none, 0, 0, none, 0, 0, 0, 0, 0, 0, rfl, x, Lib.hid (World.ownsRow_nil _ _ _ _), Lib.hid (gen00_new _ _)⟩)
  | true =>
    have hC' := hC.symm
    simp only [Bool.and_eq_true, decide_eq_true_eq] at hC'
    obtain rfl := hn hC'.1.2
    have h2 := hC'.1.2
    simp only [fanB, Bool.and_eq_true, decide_eq_true_eq] at h2
    exact (mask_new (n := n) h ⟨hC'.1.1, hF⟩ (by omega) (by omega) hC'.2.1 hC'.2.2).mono (by
      rintro e w' ⟨o, v', rfl, x, mt⟩
      obtain ⟨a, m, c, p, q, r, s, rfl⟩ := mt.rand.at.agg
      obtain ⟨oa, oc, rfl⟩ := own_sl mt.own
      refine ⟨_, _, _, a, m, c, p, q, r, s, rfl, x, Lib.hid ?_, Lib.hid mt.rand⟩
      have hl : (masks P n [] g).1.length = n := by rw [masks_len]; simp
      show World.ownsRow _ _ _ _ _ (masks P n [] g).1.length ((masks P n [] g).1.map _)
      rw [hl]
      exact mt.own)
/-- ratchetlaw8.Is, of an answer that is the wanted one, or refused as it is wanted. -/
theorem is8_all {s d sv dv : Value} {xs : List Int} {n : Nat} {z : Int} {base : Nat} (A : Bool) (h : TenNew base w s d (wantS A xs) (wantD A z n g)) (hn : A = true → xs.length ≤ 100000 ∧ n ≤ 100000) (hb : base ≤ w.heap.size)
    (h1 : Row .i64 w sv (wantS A xs)) (h2 : Row .i64 w dv (wantD A z n g)) :
    Calls Tryz.prog 20 #[.agg #[s, d], .int .i64 (er A), .agg #[sv, dv], .int .i64 (er A)] w fun e w' => e = .returned (.bool true) ∧ Spl (fun b => s.ownBlock = some b ∨ d.ownBlock = some b) w w' := by
  cases A with
  | false =>
    obtain ⟨a1, c1, e1, -⟩ := h1.form'
    obtain ⟨a2, c2, e2, -⟩ := h2.form'
    exact (is8_no h.row_s h.row_d ⟨_, _, _, e1⟩ ⟨_, _, _, e2⟩).mono (by rintro e w' ⟨rfl, x⟩; exact ⟨rfl, .of_ext x⟩)
  | true => exact is8_ok h.rs h.rd h.ap (hn rfl).1 (by show (fillG z n g).1.length ≤ _; rw [fillG_len]; exact (hn rfl).2) hb h1 h2
end
end Go.Proofs.YtkegefnpmijfiaaGreat
