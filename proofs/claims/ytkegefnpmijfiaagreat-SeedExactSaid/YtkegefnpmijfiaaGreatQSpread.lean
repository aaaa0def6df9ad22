/- seed.spread, Xavier, He: a tensor of words drawn between a bound and its negative. -/
import Derived.Test.YtkegefnpmijfiaaGreatQNewS
import Derived.Test.YtkegefnpmijfiaaGreatQRootL
import Derived.Test.YtkegefnpmijfiaaGreatQRoots
import Derived.Test.YtkegefnpmijfiaaGreatQFxA
import Derived.BigRegion
import Derived.Deep.DeepCutAuto
namespace Go.Proofs.YtkegefnpmijfiaaGreat
open Go.RowKit
attribute [local go_sem ↓] Go.wp_at_zero Go.wp_at_succ
theorem RandNew.set1 {base b o : Nat} {w : World} {v : Value} {g : Gen} (h : RandNew base w v g) (hb : b < base) (x : Value) : RandNew base (w.setCell ⟨b, o, none⟩ x) v g := by
  obtain ⟨a, c, rfl, r⟩ := h
  exact ⟨a, c, rfl, ownsRow_setCell_below r hb _⟩
set_option maxRecDepth 100000 in
set_option maxHeartbeats 20000000 in
theorem spread_any {v s : Value} {xs : List Int} {g : Gen} {w : World} {fan f : Int} (h : RandAt w v g) (hF : g.Fine) (hs : Row .i64 w s xs) (hx : shp xs = true) (n : Nat) (hn : pr xs = n) (f0 : 1 ≤ fan) (f1 : fan ≤ 131072) (hf : gdF f = true) :
    Calls Tryz.prog 127 #[v, s, .int .i64 fan, .int .i64 f] w fun e w' => ∃ (r : Int) (a1 : Option Addr) (c1 g2 : Nat) (a : Option Addr) (m c : Nat) (p q t u : Int), e = .returned (.tuple #[.agg #[.slice a1 xs.length c1, .slice (some ⟨g2, 0, none⟩) n n], .agg #[.slice a m c, .int .u64 p, .int .u64 q, .int .u64 t, .int .u64 u], .int .i64 0]) ∧ Ext w w' ∧ Hid (NearRoot (dv 6 fan f * p2 f) 1 r ∧ gd r = true) ∧ Hid (TenG (w.heap.size + 1) w' a1 c1 xs g2 (fillG r n g).1) ∧ Hid (RandNew (w.heap.size + 1) w' (.agg #[.slice a m c, .int .u64 p, .int .u64 q, .int .u64 t, .int .u64 u]) (fillG r n g).2) := by
  have HX := shp_dims hx
  have n1 : n ≤ 65536 := by have := HX.2; omega
  have RAT : Hid (∀ W, Calls Tryz.prog 193 #[.int .i64 6, .int .i64 fan, .int .i64 f] W fun e w' => e = .returned (.tuple #[.int .i64 (dv 6 fan f), .int .i64 0]) ∧ Ext W w') := Lib.hid fun W => by
    have := Ratio_all 6 fan f W (by omega) (by omega) (by omega) (by omega)
    rw [hf, sel_t, sel_t, (ratio6 (by omega) hf).2.2.1] at this
    exact this
  have RT := ratio6 (n := fan) (by omega) hf
  have SQ := Lib.hid (fun W => sqrt_ok (dv 6 fan f) f W RT.2.2.2 hf RT.1)
  have BL := Lib.hid (fun r => bound_lt (n := fan) (f := f) (r := r) (by omega) hf)
  have NW := Lib.hid (fun W (x : Ext w W) => elemNew_any (hs.ext x) HX.1 HX.2 n hn)
  have DRAW : Hid (∀ (W : World) (V : Value) (G : Gen) (M : Int), RandAt w V G → G.Fine → Few M → Ext w W → Calls Tryz.prog 125 #[V, .int .u64 M] W fun e w' => ∃ a m c p q t u, e = .returned (.tuple #[.int .u64 (G.below M), .agg #[.slice a m c, .int .u64 p, .int .u64 q, .int .u64 t, .int .u64 u]]) ∧ Ext W w' ∧ Hid (RandAt w (.agg #[.slice a m c, .int .u64 p, .int .u64 q, .int .u64 t, .int .u64 u]) (G.past M))) := Lib.hid fun W V G M hv hG hM x => (draw_few hv (OldAs.of_ext x) hG hM).mono (by
    rintro e w' ⟨v', rfl, x, h⟩
    obtain ⟨a, m, c, p, q, r, s, rfl, -⟩ := h.form
    exact ⟨a, m, c, p, q, r, s, rfl, x, Lib.hid h⟩)
  have OWN : Hid (∀ (W : World) (V : Value) (G : Gen), RandAt w V G → G.Fine → Ext w W → Calls Tryz.prog 121 #[V] W fun e w' => ∃ a m c p q t u, e = .returned (.agg #[.slice a m c, .int .u64 p, .int .u64 q, .int .u64 t, .int .u64 u]) ∧ Ext W w' ∧ Hid (RandNew W.heap.size w' (.agg #[.slice a m c, .int .u64 p, .int .u64 q, .int .u64 t, .int .u64 u]) G)) := Lib.hid fun W V G hV hG x => (own_seed (hV.ext x) (by have := hG.len; omega)).mono (by
    rintro e w' ⟨v', rfl, x, h⟩
    obtain ⟨a, m, c, p, q, r, s, rfl, -⟩ := h.at.form
    exact ⟨a, m, c, p, q, r, s, rfl, x, Lib.hid h⟩)
  have HR := Lib.hid h
  have HFI := Lib.hid hF
  obtain ⟨sa, sc, rfl, -⟩ := hs.form'
  obtain ⟨a, m, c, p, q, t, u, rfl, -⟩ := h.form
  generalize hQ : dv 6 fan f = Q at *
  clear h hF hs hx hn HX RT hf hQ
  go_enter Tryz.func127, Tryz.ntmps127
  go_wp2_with fail; refine (RAT.out _).mono ?_; rintro e v1 ⟨rfl, x1⟩; obtain ⟨c1, f1⟩ := x1.rules; have z1 := x1.size; have lq := fun o => c1 (w.heap.size) o (by first | (simp; done) | (simp; omega) | omega); have mq := fun o => f1 (w.heap.size) o (by first | (simp; done) | (simp; omega) | omega); have k1_0_0 := lq 0; have q1_0_0 := mq 0; have k1_0_1 := lq 1; have q1_0_1 := mq 1; have k1_0_2 := lq 2; have q1_0_2 := mq 2; have k1_0_3 := lq 3; have q1_0_3 := mq 3; have k1_0_4 := lq 4; have q1_0_4 := mq 4; clear lq mq; have lq := fun o => c1 (w.heap.size + 1) o (by first | (simp; done) | (simp; omega) | omega); have mq := fun o => f1 (w.heap.size + 1) o (by first | (simp; done) | (simp; omega) | omega); have k1_1_0 := lq 0; have q1_1_0 := mq 0; have k1_1_1 := lq 1; have q1_1_1 := mq 1; clear lq mq; have lq := fun o => c1 (w.heap.size + 2) o (by first | (simp; done) | (simp; omega) | omega); have mq := fun o => f1 (w.heap.size + 2) o (by first | (simp; done) | (simp; omega) | omega); have k1_2_0 := lq 0; have q1_2_0 := mq 0; have k1_2_1 := lq 1; have q1_2_1 := mq 1; have k1_2_2 := lq 2; have q1_2_2 := mq 2; have k1_2_3 := lq 3; have q1_2_3 := mq 3; have k1_2_4 := lq 4; have q1_2_4 := mq 4; clear lq mq; have z1_0 : w.heap.size < v1.heap.size := (by (try simp at z1); omega); have z1_1 : w.heap.size + 1 < v1.heap.size := (by (try simp at z1); omega); have z1_2 : w.heap.size + 2 < v1.heap.size := (by (try simp at z1); omega); (try simp at z1); clear c1 f1; simp [go_sem, *] at k1_0_0 q1_0_0 k1_0_1 q1_0_1 k1_0_2 q1_0_2 k1_0_3 q1_0_3 k1_0_4 q1_0_4 k1_1_0 q1_1_0 k1_1_1 q1_1_1 k1_2_0 q1_2_0 k1_2_1 q1_2_1 k1_2_2 q1_2_2 k1_2_3 q1_2_3 k1_2_4 q1_2_4
  go_wp2_with fail; refine (SQ.out _).mono ?_; rintro e v2 ⟨r, rfl, x2, nr, gr⟩; obtain ⟨c2, f2⟩ := x2.rules; have z2 := x2.size; have lq := fun o => c2 (w.heap.size) o (by first | (simp; done) | (simp; omega) | omega); have mq := fun o => f2 (w.heap.size) o (by first | (simp; done) | (simp; omega) | omega); have k2_0_0 := lq 0; have q2_0_0 := mq 0; have k2_0_1 := lq 1; have q2_0_1 := mq 1; have k2_0_2 := lq 2; have q2_0_2 := mq 2; have k2_0_3 := lq 3; have q2_0_3 := mq 3; have k2_0_4 := lq 4; have q2_0_4 := mq 4; clear lq mq; have lq := fun o => c2 (w.heap.size + 1) o (by first | (simp; done) | (simp; omega) | omega); have mq := fun o => f2 (w.heap.size + 1) o (by first | (simp; done) | (simp; omega) | omega); have k2_1_0 := lq 0; have q2_1_0 := mq 0; have k2_1_1 := lq 1; have q2_1_1 := mq 1; clear lq mq; have lq := fun o => c2 (w.heap.size + 2) o (by first | (simp; done) | (simp; omega) | omega); have mq := fun o => f2 (w.heap.size + 2) o (by first | (simp; done) | (simp; omega) | omega); have k2_2_0 := lq 0; have q2_2_0 := mq 0; have k2_2_1 := lq 1; have q2_2_1 := mq 1; have k2_2_2 := lq 2; have q2_2_2 := mq 2; have k2_2_3 := lq 3; have q2_2_3 := mq 3; have k2_2_4 := lq 4; have q2_2_4 := mq 4; clear lq mq; have z2_0 : w.heap.size < v2.heap.size := (by (try simp at z2); omega); have z2_1 : w.heap.size + 1 < v2.heap.size := (by (try simp at z2); omega); have z2_2 : w.heap.size + 2 < v2.heap.size := (by (try simp at z2); omega); (try simp at z2); clear c2 f2; simp [go_sem, *] at k2_0_0 q2_0_0 k2_0_1 q2_0_1 k2_0_2 q2_0_2 k2_0_3 q2_0_3 k2_0_4 q2_0_4 k2_1_0 q2_1_0 k2_1_1 q2_1_1 k2_2_0 q2_2_0 k2_2_1 q2_2_1 k2_2_2 q2_2_2 k2_2_3 q2_2_3 k2_2_4 q2_2_4
  have BR := BL.out r nr
  have NG := Lib.hid (And.intro nr gr)
  clear nr gr RAT SQ BL
  go_wp2_with fail; refine (NW.out _ Ext.q).mono ?_; rintro e v3 ⟨a1, c1, g2, rfl, x3, h3⟩; obtain ⟨c3, f3⟩ := x3.rules; have z3 := x3.size; have lq := fun o => c3 (w.heap.size) o (by first | (simp; done) | (simp; omega) | omega); have mq := fun o => f3 (w.heap.size) o (by first | (simp; done) | (simp; omega) | omega); have k3_0_0 := lq 0; have q3_0_0 := mq 0; have k3_0_1 := lq 1; have q3_0_1 := mq 1; have k3_0_2 := lq 2; have q3_0_2 := mq 2; have k3_0_3 := lq 3; have q3_0_3 := mq 3; have k3_0_4 := lq 4; have q3_0_4 := mq 4; clear lq mq; have lq := fun o => c3 (w.heap.size + 1) o (by first | (simp; done) | (simp; omega) | omega); have mq := fun o => f3 (w.heap.size + 1) o (by first | (simp; done) | (simp; omega) | omega); have k3_1_0 := lq 0; have q3_1_0 := mq 0; have k3_1_1 := lq 1; have q3_1_1 := mq 1; clear lq mq; have lq := fun o => c3 (w.heap.size + 2) o (by first | (simp; done) | (simp; omega) | omega); have mq := fun o => f3 (w.heap.size + 2) o (by first | (simp; done) | (simp; omega) | omega); have k3_2_0 := lq 0; have q3_2_0 := mq 0; have k3_2_1 := lq 1; have q3_2_1 := mq 1; have k3_2_2 := lq 2; have q3_2_2 := mq 2; have k3_2_3 := lq 3; have q3_2_3 := mq 3; have k3_2_4 := lq 4; have q3_2_4 := mq 4; clear lq mq; have z3_0 : w.heap.size < v3.heap.size := (by (try simp at z3); omega); have z3_1 : w.heap.size + 1 < v3.heap.size := (by (try simp at z3); omega); have z3_2 : w.heap.size + 2 < v3.heap.size := (by (try simp at z3); omega); (try simp at z3); clear c3 f3; simp [go_sem, *] at k3_0_0 q3_0_0 k3_0_1 q3_0_1 k3_0_2 q3_0_2 k3_0_3 q3_0_3 k3_0_4 q3_0_4 k3_1_0 q3_1_0 k3_1_1 q3_1_1 k3_2_0 q3_2_0 k3_2_1 q3_2_1 k3_2_2 q3_2_2 k3_2_3 q3_2_3 k3_2_4 q3_2_4
  clear NW
  have hT1 : w.heap.size + 2 < v3.heap.size := by omega
  have hg1 : v2.heap.size < g2 := by have := h3.out.lo; omega
  have hg2 : g2 < v3.heap.size := h3.out.bd.lt
  have xw3 : Ext w v3 := Ext.q
  have B0 := Lib.hid (show Blk v3 w.heap.size 62 (rv a m c p q t u) from (((((Blk.new w _ _).alloc _).alloc _).ext x1).ext x2).ext x3)
  have B1 := Lib.hid (show Blk v3 (w.heap.size + 1) 26 #[.slice none 0 0, .slice none 0 0] from by have := ((((Blk.new (w.alloc (.cells (rv a m c p q t u) 62)) 26 #[.slice none 0 0, .slice none 0 0]).alloc (.cells (rv none 0 0 0 0 0 0) 62)).ext x1).ext x2).ext x3; simpa using this)
  have B2 := Lib.hid (show Blk v3 (w.heap.size + 1 + 1) 62 (rv none 0 0 0 0 0 0) from by have := (((Blk.new ((w.alloc (.cells (rv a m c p q t u) 62)).alloc (.cells #[.slice none 0 0, .slice none 0 0] 26)) 62 (rv none 0 0 0 0 0 0)).ext x1).ext x2).ext x3; simpa using this)
  have TG := Lib.hid (h3.out.low (b := w.heap.size + 1 + 1 + 1) (by have := x1.size; have := x2.size; simp at *; omega))
  have e1 : IntKind.i64.wrap (2 * r) = 2 * r := wrap_i64 (by omega) (by omega)
  have e2 : IntKind.i64.wrap (2 * r + 1) = 2 * r + 1 := wrap_i64 (by omega) (by omega)
  have e3 : IntKind.u64.wrap (2 * r + 1) = 2 * r + 1 := by rw [IntKind.wrap_u64]; omega
  have FW := Lib.hid (show Few (2 * r + 1) from ⟨by omega, by omega⟩)
  obtain ⟨r0, r1⟩ := BR
  clear h3 x1 x2 x3
  go_wp2_with fail
  generalize hT : v3.heap.size = T at *
  go_loopw [44] (fun i wr => ∃ (k : Nat) (zs : List Int) (G : Gen) (a : Option Addr) (m c : Nat) (p q t u : Int), k ≤ n ∧ i = .int .i64 k ∧ fillG r k g = (zs, G) ∧ Blk wr w.heap.size 62 (rv a m c p q t u) ∧ RandAt w (.agg (rv a m c p q t u)) G ∧ G.Fine ∧ TenG (w.heap.size + 1 + 1 + 1) wr a1 c1 xs g2 (zs ++ List.replicate (n - k) 0) ∧ Blk wr T 26 #[.slice a1 xs.length c1, .slice (some ⟨g2, 0, none⟩) n n] ∧ Blk wr (w.heap.size + 1) 26 #[.slice none 0 0, .slice none 0 0] ∧ Blk wr (w.heap.size + 1 + 1) 62 (rv none 0 0 0 0 0 0) ∧ Ext w wr) (fun i _ => n - (intOf i).toNat)
  case atStart => exact ⟨0, [], g, a, m, c, p, q, t, u, Nat.zero_le _, rfl, rfl, B0.out.alloc _, HR.out, HFI.out, TG.out.ext (Ext.alloc (Ext.refl _) _), by subst hT; exact Blk.new _ _ _, B1.out.alloc _, B2.out.alloc _, xw3.alloc _⟩
  case round =>
    clear B0 B1 B2 TG HR HFI xw3
    obtain ⟨k, zs, G, a, m, c, p, q, t, u, hk, rfl, hG, b0, hr, hFG, tg, bT, b1, b2, hext⟩ := hrel
    have hlz : zs.length = k := by have := fillG_len r k g; rw [hG] at this; exact this
    have HG := Lib.hid hG
    have HB0 := Lib.hid b0
    have HB1 := Lib.hid b1
    have HB2 := Lib.hid b2
    have HBT := Lib.hid bT
    have HTG := Lib.hid tg
    have HRR := Lib.hid hr
    have HFG := Lib.hid hFG
    by_cases hlt : k < n
    · have DR := Lib.hid (DRAW.out wr _ G (2 * r + 1) hr hFG FW.out hext)
      obtain ⟨X0, X1⟩ := G.below_bd (n := 2 * r + 1) FW.out.1
      obtain ⟨X, hX⟩ : ∃ X, G.below (2 * r + 1) = X := ⟨_, rfl⟩
      rw [hX] at DR X0 X1
      have X2 : X ≤ 2 * r := by omega
      clear X1
      have HX := Lib.hid hX
      have NXT := Lib.hid (show fillG r (k + 1) g = (zs ++ [X - r], G.past (2 * r + 1)) by rw [fillG, hG]; simp only; rw [hX])
      have SETL := Lib.hid (show (zs ++ List.replicate (n - k) 0).set k (X - r) = (zs ++ [X - r]) ++ List.replicate (n - (k + 1)) 0 by
        rw [show n - k = (n - (k + 1)) + 1 by omega, List.replicate_succ, List.set_append_right _ _ (by omega), hlz, Nat.sub_self, List.set_cons_zero, List.append_assoc]; rfl)
      have e5 : IntKind.i64.wrap X = X := wrap_i64 (by omega) (by omega)
      have e6 : IntKind.i64.wrap (X - r) = X - r := wrap_i64 (by omega) (by omega)
      have hkn : (k : Int) < (n : Int) := by omega
      have zk0 := (HB0.out.cell 0).trans (show (rv a m c p q t u)[0]? = some (.slice a m c) from rfl)
      have zk1 := (HB0.out.cell 1).trans (show (rv a m c p q t u)[1]? = some (.int .u64 p) from rfl)
      have zk2 := (HB0.out.cell 2).trans (show (rv a m c p q t u)[2]? = some (.int .u64 q) from rfl)
      have zk3 := (HB0.out.cell 3).trans (show (rv a m c p q t u)[3]? = some (.int .u64 t) from rfl)
      have zk4 := (HB0.out.cell 4).trans (show (rv a m c p q t u)[4]? = some (.int .u64 u) from rfl)
      have zf0 := HB0.out.frozen 0
      have zf1 := HB0.out.frozen 1
      have zf2 := HB0.out.frozen 2
      have zf3 := HB0.out.frozen 3
      have zf4 := HB0.out.frozen 4
      have kg := (HTG.out.bd.cell k).trans (ints_at _ k (by rw [List.length_append, List.length_replicate]; omega))
      clear hX hG b0 hr hFG tg bT b1 b2
      go_wp2_with fail
      refine (DR.out).mono ?_; rintro e v4 ⟨a4, m4, d4, p4, q4, t4, u4, rfl, x4, h4⟩; obtain ⟨c4, f4⟩ := x4.rules; have z4 := x4.size
      have hz4 := x4.size
      have yk0 := ((HB0.out.ext x4).cell 0).trans (show (rv a m c p q t u)[0]? = some (.slice a m c) from rfl)
      have yk1 := ((HB0.out.ext x4).cell 1).trans (show (rv a m c p q t u)[1]? = some (.int .u64 p) from rfl)
      have yk2 := ((HB0.out.ext x4).cell 2).trans (show (rv a m c p q t u)[2]? = some (.int .u64 q) from rfl)
      have yk3 := ((HB0.out.ext x4).cell 3).trans (show (rv a m c p q t u)[3]? = some (.int .u64 t) from rfl)
      have yk4 := ((HB0.out.ext x4).cell 4).trans (show (rv a m c p q t u)[4]? = some (.int .u64 u) from rfl)
      have yf0 := (HB0.out.ext x4).frozen 0
      have yf1 := (HB0.out.ext x4).frozen 1
      have yf2 := (HB0.out.ext x4).frozen 2
      have yf3 := (HB0.out.ext x4).frozen 3
      have yf4 := (HB0.out.ext x4).frozen 4
      have kT := ((HBT.out.ext x4).cell 1).trans (show (#[.slice a1 xs.length c1, .slice (some ⟨g2, 0, none⟩) n n] : Array Value)[1]? = some (.slice (some ⟨g2, 0, none⟩) n n) from rfl)
      have kg4 := x4.cell kg
      have fg4 := (HTG.out.bd.ext x4).frozen k
      have BE0 := Lib.hid (((((((HB0.out.ext x4).set_ 0 (.slice a4 m4 d4)).set_ 1 (.int .u64 p4)).set_ 2 (.int .u64 q4)).set_ 3 (.int .u64 t4)).set_ 4 (.int .u64 u4)).far (p := ⟨g2, k, none⟩) (by show _ ≠ g2; omega) (.int .i64 (X - r)))
      have far := fun (b : Nat) (ty : TypeId) (cs : Array Value) (hb : Blk v4 b ty cs) (h0 : b ≠ w.heap.size) (h1 : b ≠ g2) => (((((hb.far (p := ⟨w.heap.size, 0, none⟩) h0 (.slice a4 m4 d4)).far (p := ⟨w.heap.size, 1, none⟩) h0 (.int .u64 p4)).far (p := ⟨w.heap.size, 2, none⟩) h0 (.int .u64 q4)).far (p := ⟨w.heap.size, 3, none⟩) h0 (.int .u64 t4)).far (p := ⟨w.heap.size, 4, none⟩) h0 (.int .u64 u4)).far (p := ⟨g2, k, none⟩) h1 (.int .i64 (X - r))
      have BE1 := Lib.hid (far _ _ _ (HB1.out.ext x4) (by omega) (by omega))
      have BE2 := Lib.hid (far _ _ _ (HB2.out.ext x4) (by omega) (by omega))
      have BET := Lib.hid (far _ _ _ (HBT.out.ext x4) (by omega) (by omega))
      have TGE := Lib.hid ((((((HTG.out.ext x4).far (b := w.heap.size) (o := 0) (by omega) (.slice a4 m4 d4)).far (b := w.heap.size) (o := 1) (by omega) (.int .u64 p4)).far (b := w.heap.size) (o := 2) (by omega) (.int .u64 q4)).far (b := w.heap.size) (o := 3) (by omega) (.int .u64 t4)).far (b := w.heap.size) (o := 4) (by omega) (.int .u64 u4) |>.set_ k (X - r))
      have XE := Lib.hid (Ext.setCell (own_ext5 (hext.tr x4) (Nat.le_refl _) (.slice a4 m4 d4) (.int .u64 p4) (.int .u64 q4) (.int .u64 t4) (.int .u64 u4)) (p := ⟨g2, k, none⟩) (by show _ ≤ g2; omega) (.int .i64 (X - r)))
      rw [SETL.out] at TGE
      clear far kg x4 hext HB0 HB1 HB2 HBT HTG HRR SETL c4 f4
      go_wp2
      go_roundw
      case rel => exact ⟨k + 1, _, _, _, _, _, _, _, _, _, by omega, by go_num, NXT.out, BE0.out, h4.out, Gen.past_fine HFG.out _, TGE.out, BET.out, BE1.out, BE2.out, XE.out⟩
      case measure => simp [intOf]; omega
    · obtain rfl : n = k := by omega
      have OW := Lib.hid (fun W x => OWN.out W _ G hr hFG x)
      have HTN := Lib.hid (show TenG (w.heap.size + 1 + 1 + 1) wr a1 c1 xs g2 zs by have := tg; rwa [Nat.sub_self, List.replicate_zero, List.append_nil] at this)
      have zk0 := (HB0.out.cell 0).trans (show (rv a m c p q t u)[0]? = some (.slice a m c) from rfl)
      have zk1 := (HB0.out.cell 1).trans (show (rv a m c p q t u)[1]? = some (.int .u64 p) from rfl)
      have zk2 := (HB0.out.cell 2).trans (show (rv a m c p q t u)[2]? = some (.int .u64 q) from rfl)
      have zk3 := (HB0.out.cell 3).trans (show (rv a m c p q t u)[3]? = some (.int .u64 t) from rfl)
      have zk4 := (HB0.out.cell 4).trans (show (rv a m c p q t u)[4]? = some (.int .u64 u) from rfl)
      have zf0 := HB0.out.frozen 0
      have zf1 := HB0.out.frozen 1
      have zf2 := HB0.out.frozen 2
      have zf3 := HB0.out.frozen 3
      have zf4 := HB0.out.frozen 4
      have kT0 := (HBT.out.cell 0).trans (show (#[.slice a1 xs.length c1, .slice (some ⟨g2, 0, none⟩) n n] : Array Value)[0]? = some (.slice a1 xs.length c1) from rfl)
      have kT1 := (HBT.out.cell 1).trans (show (#[.slice a1 xs.length c1, .slice (some ⟨g2, 0, none⟩) n n] : Array Value)[1]? = some (.slice (some ⟨g2, 0, none⟩) n n) from rfl)
      have lt2 := HB2.out.lt
      clear hG b0 hr hFG tg bT b1 b2 DRAW OWN FW HFG HRR
      go_wp2_with fail
      go_region_with (go_at_call 121; refine (OW.out _ Ext.q).mono ?_; rintro e v6 ⟨a6, m6, d6, p6, q6, t6, u6, rfl, x6, n6⟩; obtain ⟨c6, f6⟩ := x6.rules; have z6 := x6.size; have hz6 := x6.size; have kT60 := ((HBT.out.drew.ext x6).cell 0).trans (show (#[.slice a1 xs.length c1, .slice (some ⟨g2, 0, none⟩) n n] : Array Value)[0]? = some (.slice a1 xs.length c1) from rfl); have kT61 := ((HBT.out.drew.ext x6).cell 1).trans (show (#[.slice a1 xs.length c1, .slice (some ⟨g2, 0, none⟩) n n] : Array Value)[1]? = some (.slice (some ⟨g2, 0, none⟩) n n) from rfl); have j0 := ((HB1.out.drew.ext x6).cell 0).trans (show (#[.slice none 0 0, .slice none 0 0] : Array Value)[0]? = some (.slice none 0 0) from rfl); have jf0 := (HB1.out.drew.ext x6).frozen 0; have j1 := ((HB1.out.drew.ext x6).cell 1).trans (show (#[.slice none 0 0, .slice none 0 0] : Array Value)[1]? = some (.slice none 0 0) from rfl); have jf1 := (HB1.out.drew.ext x6).frozen 1; have l0 := ((HB2.out.drew.ext x6).cell 0).trans (show (rv none 0 0 0 0 0 0)[0]? = some (.slice none 0 0) from rfl); have lf0 := (HB2.out.drew.ext x6).frozen 0; have l1 := ((HB2.out.drew.ext x6).cell 1).trans (show (rv none 0 0 0 0 0 0)[1]? = some (.int .u64 0) from rfl); have lf1 := (HB2.out.drew.ext x6).frozen 1; have l2 := ((HB2.out.drew.ext x6).cell 2).trans (show (rv none 0 0 0 0 0 0)[2]? = some (.int .u64 0) from rfl); have lf2 := (HB2.out.drew.ext x6).frozen 2; have l3 := ((HB2.out.drew.ext x6).cell 3).trans (show (rv none 0 0 0 0 0 0)[3]? = some (.int .u64 0) from rfl); have lf3 := (HB2.out.drew.ext x6).frozen 3; have l4 := ((HB2.out.drew.ext x6).cell 4).trans (show (rv none 0 0 0 0 0 0)[4]? = some (.int .u64 0) from rfl); have lf4 := (HB2.out.drew.ext x6).frozen 4)
      all_goals
        go_wp2
        have hz0 : w.heap.size + 2 < v6.heap.size := by simp at hz6; omega
        have E1 : (fillG r n g).1 = zs := by rw [HG.out]
        have E2 : (fillG r n g).2 = G := by rw [HG.out]
        have hbs : w.heap.size + 1 + 1 < wr.drew.heap.size := lt2
        have XF := Lib.hid (own_ext5 ((((Ext.drew hext).tr x6).setCell (p := ⟨w.heap.size + 1, 0, none⟩) (by simp) (.slice a1 xs.length c1)).setCell (p := ⟨w.heap.size + 1, 1, none⟩) (by simp) (.slice (some ⟨g2, 0, none⟩) n n)) (b := w.heap.size + 1 + 1) (by omega) (.slice a6 m6 d6) (.int .u64 p6) (.int .u64 q6) (.int .u64 t6) (.int .u64 u6))
        have NF := Lib.hid ((((n6.out.set1 (b := w.heap.size + 1) (o := 0) (by omega) (.slice a1 xs.length c1)).set1 (b := w.heap.size + 1) (o := 1) (by omega) (.slice (some ⟨g2, 0, none⟩) n n)).set5 (b := w.heap.size + 1 + 1) (by omega) (.slice a6 m6 d6) (.int .u64 p6) (.int .u64 q6) (.int .u64 t6) (.int .u64 u6)).base (base' := w.heap.size + 1) (by omega))
        have TF := Lib.hid (((((((((HTN.out.drew.ext x6).far (b := w.heap.size + 1) (o := 0) (by omega) (.slice a1 xs.length c1)).far (b := w.heap.size + 1) (o := 1) (by omega) (.slice (some ⟨g2, 0, none⟩) n n)).far (b := w.heap.size + 1 + 1) (o := 0) (by omega) (.slice a6 m6 d6)).far (b := w.heap.size + 1 + 1) (o := 1) (by omega) (.int .u64 p6)).far (b := w.heap.size + 1 + 1) (o := 2) (by omega) (.int .u64 q6)).far (b := w.heap.size + 1 + 1) (o := 3) (by omega) (.int .u64 t6)).far (b := w.heap.size + 1 + 1) (o := 4) (by omega) (.int .u64 u6)).low (b := w.heap.size + 1) (by omega))
        rw [← E1] at TF
        rw [← E2] at NF
        clear HB0 HB1 HB2 HBT HG E1 E2 HTN n6
        simp [bodyPost, results, Tryz.results127, go_sem, *]
        exact ⟨r, a1, c1, g2, a6, m6, d6, p6, q6, t6, u6, ⟨⟨⟨rfl, rfl⟩, rfl⟩, ⟨rfl, rfl, rfl⟩, rfl, rfl, rfl, rfl⟩, XF.out, NG, TF, NF⟩
set_option maxRecDepth 100000 in
set_option maxHeartbeats 20000000 in
theorem xavier_ok {v s : Value} {xs : List Int} {g : Gen} {w : World} {In Out f : Int} (h : RandAt w v g) (hF : g.Fine) (hs : Row .i64 w s xs) (hx : shp xs = true) (n : Nat) (hn : pr xs = n) (h1 : fanB In = true) (h2 : fanB Out = true) (hf : gdF f = true) :
    Calls Tryz.prog 42 #[v, s, .int .i64 In, .int .i64 Out, .int .i64 f] w fun e w' => ∃ (r : Int) (a1 : Option Addr) (c1 g2 : Nat) (a : Option Addr) (m c : Nat) (p q t u : Int), e = .returned (.tuple #[.agg #[.slice a1 xs.length c1, .slice (some ⟨g2, 0, none⟩) n n], .agg #[.slice a m c, .int .u64 p, .int .u64 q, .int .u64 t, .int .u64 u], .int .i64 0]) ∧ Ext w w' ∧ Hid (NearRoot (dv 6 (In + Out) f * p2 f) 1 r ∧ gd r = true) ∧ Hid (TenG (w.heap.size + 1) w' a1 c1 xs g2 (fillG r n g).1) ∧ Hid (RandNew (w.heap.size + 1) w' (.agg #[.slice a m c, .int .u64 p, .int .u64 q, .int .u64 t, .int .u64 u]) (fillG r n g).2) := by
  have GD := Lib.hid (fun u (x : Ext w u) => good_rand (h.ext x) hF.1)
  have SG := Lib.hid (fun u (x : Ext w u) => sgood_any (hs.ext x))
  rw [hx] at SG
  have f1 := h1
  simp only [fanB, Bool.and_eq_true, decide_eq_true_eq] at f1
  have f2 := h2
  simp only [fanB, Bool.and_eq_true, decide_eq_true_eq] at f2
  have ew : IntKind.i64.wrap (In + Out) = In + Out := wrap_i64 (by omega) (by omega)
  have SP := Lib.hid (fun u (x : Ext w u) => spread_any (fan := In + Out) (h.ext x) hF (hs.ext x) hx n hn (by omega) (by omega) hf)
  have S1 := Lib.hid (fun u => seedCount_any In u)
  rw [h1] at S1
  have S2 := Lib.hid (fun u => seedCount_any Out u)
  rw [h2] at S2
  have S3 := Lib.hid (fun u => goodF_any f u)
  rw [hf] at S3
  obtain ⟨sa, sc, rfl, -⟩ := hs.form'
  obtain ⟨a, m, c, p, q, t, u, rfl, -⟩ := h.form
  clear h hF hs hx hn f1 hf h1 h2 f2
  go_enter Tryz.func42, Tryz.ntmps42
  go_wp2_with fail; refine (GD.out _ Ext.q).mono ?_; rintro e v1 ⟨rfl, x1⟩; obtain ⟨c1, f1⟩ := x1.rules; have z1 := x1.size; have lq := fun o => c1 (w.heap.size) o (by first | (simp; done) | (simp; omega) | omega); have mq := fun o => f1 (w.heap.size) o (by first | (simp; done) | (simp; omega) | omega); have k1_0_0 := lq 0; have q1_0_0 := mq 0; have k1_0_1 := lq 1; have q1_0_1 := mq 1; have k1_0_2 := lq 2; have q1_0_2 := mq 2; have k1_0_3 := lq 3; have q1_0_3 := mq 3; have k1_0_4 := lq 4; have q1_0_4 := mq 4; clear lq mq; have lq := fun o => c1 (w.heap.size + 1) o (by first | (simp; done) | (simp; omega) | omega); have mq := fun o => f1 (w.heap.size + 1) o (by first | (simp; done) | (simp; omega) | omega); have k1_1_0 := lq 0; have q1_1_0 := mq 0; have k1_1_1 := lq 1; have q1_1_1 := mq 1; clear lq mq; have lq := fun o => c1 (w.heap.size + 2) o (by first | (simp; done) | (simp; omega) | omega); have mq := fun o => f1 (w.heap.size + 2) o (by first | (simp; done) | (simp; omega) | omega); have k1_2_0 := lq 0; have q1_2_0 := mq 0; have k1_2_1 := lq 1; have q1_2_1 := mq 1; have k1_2_2 := lq 2; have q1_2_2 := mq 2; have k1_2_3 := lq 3; have q1_2_3 := mq 3; have k1_2_4 := lq 4; have q1_2_4 := mq 4; clear lq mq; have z1_0 : w.heap.size < v1.heap.size := (by (try simp at z1); omega); have z1_1 : w.heap.size + 1 < v1.heap.size := (by (try simp at z1); omega); have z1_2 : w.heap.size + 2 < v1.heap.size := (by (try simp at z1); omega); (try simp at z1); clear c1 f1; simp [go_sem, *] at k1_0_0 q1_0_0 k1_0_1 q1_0_1 k1_0_2 q1_0_2 k1_0_3 q1_0_3 k1_0_4 q1_0_4 k1_1_0 q1_1_0 k1_1_1 q1_1_1 k1_2_0 q1_2_0 k1_2_1 q1_2_1 k1_2_2 q1_2_2 k1_2_3 q1_2_3 k1_2_4 q1_2_4
  go_wp2_with fail; refine (SG.out _ Ext.q).mono ?_; rintro e w' ⟨rfl, rfl⟩
  go_wp2_with fail; refine (S1.out _).mono ?_; rintro e w' ⟨rfl, rfl⟩
  go_wp2_with fail; refine (S2.out _).mono ?_; rintro e w' ⟨rfl, rfl⟩
  go_wp2_with fail; refine (S3.out _).mono ?_; rintro e w' ⟨rfl, rfl⟩
  go_wp2_with fail; refine (SP.out _ Ext.q).mono ?_; rintro e v2 ⟨r, a1, c1, g2, a2, m2, d2, p2_, q2, t2, u2, rfl, x2, nr, tg, hr⟩; obtain ⟨c2, f2⟩ := x2.rules; have z2 := x2.size; have lq := fun o => c2 (w.heap.size) o (by first | (simp; done) | (simp; omega) | omega); have mq := fun o => f2 (w.heap.size) o (by first | (simp; done) | (simp; omega) | omega); have k2_0_0 := lq 0; have q2_0_0 := mq 0; have k2_0_1 := lq 1; have q2_0_1 := mq 1; have k2_0_2 := lq 2; have q2_0_2 := mq 2; have k2_0_3 := lq 3; have q2_0_3 := mq 3; have k2_0_4 := lq 4; have q2_0_4 := mq 4; clear lq mq; have lq := fun o => c2 (w.heap.size + 1) o (by first | (simp; done) | (simp; omega) | omega); have mq := fun o => f2 (w.heap.size + 1) o (by first | (simp; done) | (simp; omega) | omega); have k2_1_0 := lq 0; have q2_1_0 := mq 0; have k2_1_1 := lq 1; have q2_1_1 := mq 1; clear lq mq; have lq := fun o => c2 (w.heap.size + 2) o (by first | (simp; done) | (simp; omega) | omega); have mq := fun o => f2 (w.heap.size + 2) o (by first | (simp; done) | (simp; omega) | omega); have k2_2_0 := lq 0; have q2_2_0 := mq 0; have k2_2_1 := lq 1; have q2_2_1 := mq 1; have k2_2_2 := lq 2; have q2_2_2 := mq 2; have k2_2_3 := lq 3; have q2_2_3 := mq 3; have k2_2_4 := lq 4; have q2_2_4 := mq 4; clear lq mq; have z2_0 : w.heap.size < v2.heap.size := (by (try simp at z2); omega); have z2_1 : w.heap.size + 1 < v2.heap.size := (by (try simp at z2); omega); have z2_2 : w.heap.size + 2 < v2.heap.size := (by (try simp at z2); omega); (try simp at z2); clear c2 f2; simp [go_sem, *] at k2_0_0 q2_0_0 k2_0_1 q2_0_1 k2_0_2 q2_0_2 k2_0_3 q2_0_3 k2_0_4 q2_0_4 k2_1_0 q2_1_0 k2_1_1 q2_1_1 k2_2_0 q2_2_0 k2_2_1 q2_2_1 k2_2_2 q2_2_2 k2_2_3 q2_2_3 k2_2_4 q2_2_4
  have hz2 := x2.size
  have hz1 : w.heap.size + 2 < v1.heap.size := by omega
  clear GD SG SP S1 S3 S2
  have X12 := Lib.hid (show Ext w v2 from Ext.q)
  have XF := Lib.hid (own_ext5 ((X12.out.setCell (p := ⟨w.heap.size + 1, 0, none⟩) (by simp) (.slice a1 xs.length c1)).setCell (p := ⟨w.heap.size + 1, 1, none⟩) (by simp) (.slice (some ⟨g2, 0, none⟩) n n)) (b := w.heap.size + 1 + 1) (by omega) (.slice a2 m2 d2) (.int .u64 p2_) (.int .u64 q2) (.int .u64 t2) (.int .u64 u2))
  have TF := Lib.hid ((((((((tg.out.far (b := w.heap.size + 1) (o := 0) (by omega) (.slice a1 xs.length c1)).far (b := w.heap.size + 1) (o := 1) (by omega) (.slice (some ⟨g2, 0, none⟩) n n)).far (b := w.heap.size + 1 + 1) (o := 0) (by omega) (.slice a2 m2 d2)).far (b := w.heap.size + 1 + 1) (o := 1) (by omega) (.int .u64 p2_)).far (b := w.heap.size + 1 + 1) (o := 2) (by omega) (.int .u64 q2)).far (b := w.heap.size + 1 + 1) (o := 3) (by omega) (.int .u64 t2)).far (b := w.heap.size + 1 + 1) (o := 4) (by omega) (.int .u64 u2)).low (b := w.heap.size + 1) (by omega))
  have NF := Lib.hid ((((hr.out.set1 (b := w.heap.size + 1) (o := 0) (by omega) (.slice a1 xs.length c1)).set1 (b := w.heap.size + 1) (o := 1) (by omega) (.slice (some ⟨g2, 0, none⟩) n n)).set5 (b := w.heap.size + 1 + 1) (by omega) (.slice a2 m2 d2) (.int .u64 p2_) (.int .u64 q2) (.int .u64 t2) (.int .u64 u2)).base (base' := w.heap.size + 1) (by omega))
  clear tg hr X12
  go_wp2
  simp [bodyPost, results, Tryz.results42, go_sem, *]
  exact ⟨r, a1, c1, g2, a2, m2, d2, p2_, q2, t2, u2, ⟨⟨⟨rfl, rfl⟩, rfl⟩, ⟨rfl, rfl, rfl⟩, rfl, rfl, rfl, rfl⟩, XF.out, nr, TF, NF⟩
set_option maxRecDepth 100000 in
set_option maxHeartbeats 20000000 in
theorem he_ok {v s : Value} {xs : List Int} {g : Gen} {w : World} {In f : Int} (h : RandAt w v g) (hF : g.Fine) (hs : Row .i64 w s xs) (hx : shp xs = true) (n : Nat) (hn : pr xs = n) (h1 : fanB In = true) (hf : gdF f = true) :
    Calls Tryz.prog 50 #[v, s, .int .i64 In, .int .i64 f] w fun e w' => ∃ (r : Int) (a1 : Option Addr) (c1 g2 : Nat) (a : Option Addr) (m c : Nat) (p q t u : Int), e = .returned (.tuple #[.agg #[.slice a1 xs.length c1, .slice (some ⟨g2, 0, none⟩) n n], .agg #[.slice a m c, .int .u64 p, .int .u64 q, .int .u64 t, .int .u64 u], .int .i64 0]) ∧ Ext w w' ∧ Hid (NearRoot (dv 6 (In) f * p2 f) 1 r ∧ gd r = true) ∧ Hid (TenG (w.heap.size + 1) w' a1 c1 xs g2 (fillG r n g).1) ∧ Hid (RandNew (w.heap.size + 1) w' (.agg #[.slice a m c, .int .u64 p, .int .u64 q, .int .u64 t, .int .u64 u]) (fillG r n g).2) := by
  have GD := Lib.hid (fun u (x : Ext w u) => good_rand (h.ext x) hF.1)
  have SG := Lib.hid (fun u (x : Ext w u) => sgood_any (hs.ext x))
  rw [hx] at SG
  have f1 := h1
  simp only [fanB, Bool.and_eq_true, decide_eq_true_eq] at f1
  have SP := Lib.hid (fun u (x : Ext w u) => spread_any (fan := In) (h.ext x) hF (hs.ext x) hx n hn (by omega) (by omega) hf)
  have S1 := Lib.hid (fun u => seedCount_any In u)
  rw [h1] at S1
  have S3 := Lib.hid (fun u => goodF_any f u)
  rw [hf] at S3
  obtain ⟨sa, sc, rfl, -⟩ := hs.form'
  obtain ⟨a, m, c, p, q, t, u, rfl, -⟩ := h.form
  clear h hF hs hx hn f1 hf h1
  go_enter Tryz.func50, Tryz.ntmps50
  go_wp2_with fail; refine (GD.out _ Ext.q).mono ?_; rintro e v1 ⟨rfl, x1⟩; obtain ⟨c1, f1⟩ := x1.rules; have z1 := x1.size; have lq := fun o => c1 (w.heap.size) o (by first | (simp; done) | (simp; omega) | omega); have mq := fun o => f1 (w.heap.size) o (by first | (simp; done) | (simp; omega) | omega); have k1_0_0 := lq 0; have q1_0_0 := mq 0; have k1_0_1 := lq 1; have q1_0_1 := mq 1; have k1_0_2 := lq 2; have q1_0_2 := mq 2; have k1_0_3 := lq 3; have q1_0_3 := mq 3; have k1_0_4 := lq 4; have q1_0_4 := mq 4; clear lq mq; have lq := fun o => c1 (w.heap.size + 1) o (by first | (simp; done) | (simp; omega) | omega); have mq := fun o => f1 (w.heap.size + 1) o (by first | (simp; done) | (simp; omega) | omega); have k1_1_0 := lq 0; have q1_1_0 := mq 0; have k1_1_1 := lq 1; have q1_1_1 := mq 1; clear lq mq; have lq := fun o => c1 (w.heap.size + 2) o (by first | (simp; done) | (simp; omega) | omega); have mq := fun o => f1 (w.heap.size + 2) o (by first | (simp; done) | (simp; omega) | omega); have k1_2_0 := lq 0; have q1_2_0 := mq 0; have k1_2_1 := lq 1; have q1_2_1 := mq 1; have k1_2_2 := lq 2; have q1_2_2 := mq 2; have k1_2_3 := lq 3; have q1_2_3 := mq 3; have k1_2_4 := lq 4; have q1_2_4 := mq 4; clear lq mq; have z1_0 : w.heap.size < v1.heap.size := (by (try simp at z1); omega); have z1_1 : w.heap.size + 1 < v1.heap.size := (by (try simp at z1); omega); have z1_2 : w.heap.size + 2 < v1.heap.size := (by (try simp at z1); omega); (try simp at z1); clear c1 f1; simp [go_sem, *] at k1_0_0 q1_0_0 k1_0_1 q1_0_1 k1_0_2 q1_0_2 k1_0_3 q1_0_3 k1_0_4 q1_0_4 k1_1_0 q1_1_0 k1_1_1 q1_1_1 k1_2_0 q1_2_0 k1_2_1 q1_2_1 k1_2_2 q1_2_2 k1_2_3 q1_2_3 k1_2_4 q1_2_4
  go_wp2_with fail; refine (SG.out _ Ext.q).mono ?_; rintro e w' ⟨rfl, rfl⟩
  go_wp2_with fail; refine (S1.out _).mono ?_; rintro e w' ⟨rfl, rfl⟩
  go_wp2_with fail; refine (S3.out _).mono ?_; rintro e w' ⟨rfl, rfl⟩
  go_wp2_with fail; refine (SP.out _ Ext.q).mono ?_; rintro e v2 ⟨r, a1, c1, g2, a2, m2, d2, p2_, q2, t2, u2, rfl, x2, nr, tg, hr⟩; obtain ⟨c2, f2⟩ := x2.rules; have z2 := x2.size; have lq := fun o => c2 (w.heap.size) o (by first | (simp; done) | (simp; omega) | omega); have mq := fun o => f2 (w.heap.size) o (by first | (simp; done) | (simp; omega) | omega); have k2_0_0 := lq 0; have q2_0_0 := mq 0; have k2_0_1 := lq 1; have q2_0_1 := mq 1; have k2_0_2 := lq 2; have q2_0_2 := mq 2; have k2_0_3 := lq 3; have q2_0_3 := mq 3; have k2_0_4 := lq 4; have q2_0_4 := mq 4; clear lq mq; have lq := fun o => c2 (w.heap.size + 1) o (by first | (simp; done) | (simp; omega) | omega); have mq := fun o => f2 (w.heap.size + 1) o (by first | (simp; done) | (simp; omega) | omega); have k2_1_0 := lq 0; have q2_1_0 := mq 0; have k2_1_1 := lq 1; have q2_1_1 := mq 1; clear lq mq; have lq := fun o => c2 (w.heap.size + 2) o (by first | (simp; done) | (simp; omega) | omega); have mq := fun o => f2 (w.heap.size + 2) o (by first | (simp; done) | (simp; omega) | omega); have k2_2_0 := lq 0; have q2_2_0 := mq 0; have k2_2_1 := lq 1; have q2_2_1 := mq 1; have k2_2_2 := lq 2; have q2_2_2 := mq 2; have k2_2_3 := lq 3; have q2_2_3 := mq 3; have k2_2_4 := lq 4; have q2_2_4 := mq 4; clear lq mq; have z2_0 : w.heap.size < v2.heap.size := (by (try simp at z2); omega); have z2_1 : w.heap.size + 1 < v2.heap.size := (by (try simp at z2); omega); have z2_2 : w.heap.size + 2 < v2.heap.size := (by (try simp at z2); omega); (try simp at z2); clear c2 f2; simp [go_sem, *] at k2_0_0 q2_0_0 k2_0_1 q2_0_1 k2_0_2 q2_0_2 k2_0_3 q2_0_3 k2_0_4 q2_0_4 k2_1_0 q2_1_0 k2_1_1 q2_1_1 k2_2_0 q2_2_0 k2_2_1 q2_2_1 k2_2_2 q2_2_2 k2_2_3 q2_2_3 k2_2_4 q2_2_4
  have hz2 := x2.size
  have hz1 : w.heap.size + 2 < v1.heap.size := by omega
  clear GD SG SP S1 S3
  have X12 := Lib.hid (show Ext w v2 from Ext.q)
  have XF := Lib.hid (own_ext5 ((X12.out.setCell (p := ⟨w.heap.size + 1, 0, none⟩) (by simp) (.slice a1 xs.length c1)).setCell (p := ⟨w.heap.size + 1, 1, none⟩) (by simp) (.slice (some ⟨g2, 0, none⟩) n n)) (b := w.heap.size + 1 + 1) (by omega) (.slice a2 m2 d2) (.int .u64 p2_) (.int .u64 q2) (.int .u64 t2) (.int .u64 u2))
  have TF := Lib.hid ((((((((tg.out.far (b := w.heap.size + 1) (o := 0) (by omega) (.slice a1 xs.length c1)).far (b := w.heap.size + 1) (o := 1) (by omega) (.slice (some ⟨g2, 0, none⟩) n n)).far (b := w.heap.size + 1 + 1) (o := 0) (by omega) (.slice a2 m2 d2)).far (b := w.heap.size + 1 + 1) (o := 1) (by omega) (.int .u64 p2_)).far (b := w.heap.size + 1 + 1) (o := 2) (by omega) (.int .u64 q2)).far (b := w.heap.size + 1 + 1) (o := 3) (by omega) (.int .u64 t2)).far (b := w.heap.size + 1 + 1) (o := 4) (by omega) (.int .u64 u2)).low (b := w.heap.size + 1) (by omega))
  have NF := Lib.hid ((((hr.out.set1 (b := w.heap.size + 1) (o := 0) (by omega) (.slice a1 xs.length c1)).set1 (b := w.heap.size + 1) (o := 1) (by omega) (.slice (some ⟨g2, 0, none⟩) n n)).set5 (b := w.heap.size + 1 + 1) (by omega) (.slice a2 m2 d2) (.int .u64 p2_) (.int .u64 q2) (.int .u64 t2) (.int .u64 u2)).base (base' := w.heap.size + 1) (by omega))
  clear tg hr X12
  go_wp2
  simp [bodyPost, results, Tryz.results50, go_sem, *]
  exact ⟨r, a1, c1, g2, a2, m2, d2, p2_, q2, t2, u2, ⟨⟨⟨rfl, rfl⟩, rfl⟩, ⟨rfl, rfl, rfl⟩, rfl, rfl, rfl, rfl⟩, XF.out, nr, TF, NF⟩
set_option maxRecDepth 100000 in
set_option maxHeartbeats 20000000 in
theorem xavier_bad {v s : Value} {xs : List Int} {g : Gen} {w : World} {In Out f : Int} (h : RandAt w v g) (hs : Row .i64 w s xs) (hb : (goodG g && shp xs && fanB In && fanB Out && gdF f) = false) :
    Calls Tryz.prog 42 #[v, s, .int .i64 In, .int .i64 Out, .int .i64 f] w fun e w' => e = .returned (.tuple #[.agg #[.slice none 0 0, .slice none 0 0], .agg #[.slice none 0 0, .int .u64 0, .int .u64 0, .int .u64 0, .int .u64 0], .int .i64 1]) ∧ Ext w w' := by
  have C0 := Lib.hid (fun u (x : Ext w u) => good_all (h.ext x))
  have C1 := Lib.hid (fun u (x : Ext w u) => sgood_any (hs.ext x))
  have C2 := Lib.hid (fun u => seedCount_any In u)
  have C3 := Lib.hid (fun u => seedCount_any Out u)
  have C4 := Lib.hid (fun u => goodF_any f u)
  obtain ⟨sa, sc, rfl, -⟩ := hs.form'
  obtain ⟨a, m, c, p, q, t, u, rfl, -⟩ := h.form
  clear h hs
  go_enter Tryz.func42, Tryz.ntmps42
  cases e0 : (goodG g)
  · rw [e0] at C0
    clear hb e0
    go_wp2_with fail; refine (C0.out _ Ext.q).mono ?_; rintro e v1 ⟨rfl, x1⟩; obtain ⟨c1, f1⟩ := x1.rules; have z1 := x1.size; have lq := fun o => c1 (w.heap.size) o (by first | (simp; done) | (simp; omega) | omega); have mq := fun o => f1 (w.heap.size) o (by first | (simp; done) | (simp; omega) | omega); have k1_0_0 := lq 0; have q1_0_0 := mq 0; have k1_0_1 := lq 1; have q1_0_1 := mq 1; have k1_0_2 := lq 2; have q1_0_2 := mq 2; have k1_0_3 := lq 3; have q1_0_3 := mq 3; have k1_0_4 := lq 4; have q1_0_4 := mq 4; clear lq mq; have lq := fun o => c1 (w.heap.size + 1) o (by first | (simp; done) | (simp; omega) | omega); have mq := fun o => f1 (w.heap.size + 1) o (by first | (simp; done) | (simp; omega) | omega); have k1_1_0 := lq 0; have q1_1_0 := mq 0; have k1_1_1 := lq 1; have q1_1_1 := mq 1; clear lq mq; have lq := fun o => c1 (w.heap.size + 2) o (by first | (simp; done) | (simp; omega) | omega); have mq := fun o => f1 (w.heap.size + 2) o (by first | (simp; done) | (simp; omega) | omega); have k1_2_0 := lq 0; have q1_2_0 := mq 0; have k1_2_1 := lq 1; have q1_2_1 := mq 1; have k1_2_2 := lq 2; have q1_2_2 := mq 2; have k1_2_3 := lq 3; have q1_2_3 := mq 3; have k1_2_4 := lq 4; have q1_2_4 := mq 4; clear lq mq; have z1_0 : w.heap.size < v1.heap.size := (by (try simp at z1); omega); have z1_1 : w.heap.size + 1 < v1.heap.size := (by (try simp at z1); omega); have z1_2 : w.heap.size + 2 < v1.heap.size := (by (try simp at z1); omega); (try simp at z1); clear c1 f1; simp [go_sem, *] at k1_0_0 q1_0_0 k1_0_1 q1_0_1 k1_0_2 q1_0_2 k1_0_3 q1_0_3 k1_0_4 q1_0_4 k1_1_0 q1_1_0 k1_1_1 q1_1_1 k1_2_0 q1_2_0 k1_2_1 q1_2_1 k1_2_2 q1_2_2 k1_2_3 q1_2_3 k1_2_4 q1_2_4
    go_wp2
    simp [bodyPost, results, Tryz.results42, go_sem, *]
    exact own_ext5 (Ext.setCell (Ext.setCell (show Ext w v1 from Ext.q) (p := ⟨w.heap.size + 1, 0, none⟩) (by simp) _) (p := ⟨w.heap.size + 1, 1, none⟩) (by simp) _) (b := w.heap.size + 1 + 1) (by omega) _ _ _ _ _
  · rw [e0] at C0
    go_wp2_with fail; refine (C0.out _ Ext.q).mono ?_; rintro e v1 ⟨rfl, x1⟩; obtain ⟨c1, f1⟩ := x1.rules; have z1 := x1.size; have lq := fun o => c1 (w.heap.size) o (by first | (simp; done) | (simp; omega) | omega); have mq := fun o => f1 (w.heap.size) o (by first | (simp; done) | (simp; omega) | omega); have k1_0_0 := lq 0; have q1_0_0 := mq 0; have k1_0_1 := lq 1; have q1_0_1 := mq 1; have k1_0_2 := lq 2; have q1_0_2 := mq 2; have k1_0_3 := lq 3; have q1_0_3 := mq 3; have k1_0_4 := lq 4; have q1_0_4 := mq 4; clear lq mq; have lq := fun o => c1 (w.heap.size + 1) o (by first | (simp; done) | (simp; omega) | omega); have mq := fun o => f1 (w.heap.size + 1) o (by first | (simp; done) | (simp; omega) | omega); have k1_1_0 := lq 0; have q1_1_0 := mq 0; have k1_1_1 := lq 1; have q1_1_1 := mq 1; clear lq mq; have lq := fun o => c1 (w.heap.size + 2) o (by first | (simp; done) | (simp; omega) | omega); have mq := fun o => f1 (w.heap.size + 2) o (by first | (simp; done) | (simp; omega) | omega); have k1_2_0 := lq 0; have q1_2_0 := mq 0; have k1_2_1 := lq 1; have q1_2_1 := mq 1; have k1_2_2 := lq 2; have q1_2_2 := mq 2; have k1_2_3 := lq 3; have q1_2_3 := mq 3; have k1_2_4 := lq 4; have q1_2_4 := mq 4; clear lq mq; have z1_0 : w.heap.size < v1.heap.size := (by (try simp at z1); omega); have z1_1 : w.heap.size + 1 < v1.heap.size := (by (try simp at z1); omega); have z1_2 : w.heap.size + 2 < v1.heap.size := (by (try simp at z1); omega); (try simp at z1); clear c1 f1; simp [go_sem, *] at k1_0_0 q1_0_0 k1_0_1 q1_0_1 k1_0_2 q1_0_2 k1_0_3 q1_0_3 k1_0_4 q1_0_4 k1_1_0 q1_1_0 k1_1_1 q1_1_1 k1_2_0 q1_2_0 k1_2_1 q1_2_1 k1_2_2 q1_2_2 k1_2_3 q1_2_3 k1_2_4 q1_2_4
    cases e1 : (shp xs)
    · rw [e1] at C1
      clear hb e0 e1
      go_wp2_with fail; refine (C1.out _ Ext.q).mono ?_; rintro e w' ⟨rfl, rfl⟩
      go_wp2
      simp [bodyPost, results, Tryz.results42, go_sem, *]
      exact own_ext5 (Ext.setCell (Ext.setCell (show Ext w v1 from Ext.q) (p := ⟨w.heap.size + 1, 0, none⟩) (by simp) _) (p := ⟨w.heap.size + 1, 1, none⟩) (by simp) _) (b := w.heap.size + 1 + 1) (by omega) _ _ _ _ _
    · rw [e1] at C1
      go_wp2_with fail; refine (C1.out _ Ext.q).mono ?_; rintro e w' ⟨rfl, rfl⟩
      cases e2 : (fanB In)
      · rw [e2] at C2
        clear hb e0 e1 e2
        go_wp2_with fail; refine (C2.out _).mono ?_; rintro e w' ⟨rfl, rfl⟩
        go_wp2
        simp [bodyPost, results, Tryz.results42, go_sem, *]
        exact own_ext5 (Ext.setCell (Ext.setCell (show Ext w v1 from Ext.q) (p := ⟨w.heap.size + 1, 0, none⟩) (by simp) _) (p := ⟨w.heap.size + 1, 1, none⟩) (by simp) _) (b := w.heap.size + 1 + 1) (by omega) _ _ _ _ _
      · rw [e2] at C2
        go_wp2_with fail; refine (C2.out _).mono ?_; rintro e w' ⟨rfl, rfl⟩
        cases e3 : (fanB Out)
        · rw [e3] at C3
          clear hb e0 e1 e2 e3
          go_wp2_with fail; refine (C3.out _).mono ?_; rintro e w' ⟨rfl, rfl⟩
          go_wp2
          simp [bodyPost, results, Tryz.results42, go_sem, *]
          exact own_ext5 (Ext.setCell (Ext.setCell (show Ext w v1 from Ext.q) (p := ⟨w.heap.size + 1, 0, none⟩) (by simp) _) (p := ⟨w.heap.size + 1, 1, none⟩) (by simp) _) (b := w.heap.size + 1 + 1) (by omega) _ _ _ _ _
        · rw [e3] at C3
          go_wp2_with fail; refine (C3.out _).mono ?_; rintro e w' ⟨rfl, rfl⟩
          have e4 : (gdF f) = false := by simpa [e0, e1, e2, e3] using hb
          rw [e4] at C4
          clear hb e0 e1 e2 e3 e4
          go_wp2_with fail; refine (C4.out _).mono ?_; rintro e w' ⟨rfl, rfl⟩
          go_wp2
          simp [bodyPost, results, Tryz.results42, go_sem, *]
          exact own_ext5 (Ext.setCell (Ext.setCell (show Ext w v1 from Ext.q) (p := ⟨w.heap.size + 1, 0, none⟩) (by simp) _) (p := ⟨w.heap.size + 1, 1, none⟩) (by simp) _) (b := w.heap.size + 1 + 1) (by omega) _ _ _ _ _
set_option maxRecDepth 100000 in
set_option maxHeartbeats 20000000 in
theorem he_bad {v s : Value} {xs : List Int} {g : Gen} {w : World} {In f : Int} (h : RandAt w v g) (hs : Row .i64 w s xs) (hb : (goodG g && shp xs && fanB In && gdF f) = false) :
    Calls Tryz.prog 50 #[v, s, .int .i64 In, .int .i64 f] w fun e w' => e = .returned (.tuple #[.agg #[.slice none 0 0, .slice none 0 0], .agg #[.slice none 0 0, .int .u64 0, .int .u64 0, .int .u64 0, .int .u64 0], .int .i64 1]) ∧ Ext w w' := by
  have C0 := Lib.hid (fun u (x : Ext w u) => good_all (h.ext x))
  have C1 := Lib.hid (fun u (x : Ext w u) => sgood_any (hs.ext x))
  have C2 := Lib.hid (fun u => seedCount_any In u)
  have C4 := Lib.hid (fun u => goodF_any f u)
  obtain ⟨sa, sc, rfl, -⟩ := hs.form'
  obtain ⟨a, m, c, p, q, t, u, rfl, -⟩ := h.form
  clear h hs
  go_enter Tryz.func50, Tryz.ntmps50
  cases e0 : (goodG g)
  · rw [e0] at C0
    clear hb e0
    go_wp2_with fail; refine (C0.out _ Ext.q).mono ?_; rintro e v1 ⟨rfl, x1⟩; obtain ⟨c1, f1⟩ := x1.rules; have z1 := x1.size; have lq := fun o => c1 (w.heap.size) o (by first | (simp; done) | (simp; omega) | omega); have mq := fun o => f1 (w.heap.size) o (by first | (simp; done) | (simp; omega) | omega); have k1_0_0 := lq 0; have q1_0_0 := mq 0; have k1_0_1 := lq 1; have q1_0_1 := mq 1; have k1_0_2 := lq 2; have q1_0_2 := mq 2; have k1_0_3 := lq 3; have q1_0_3 := mq 3; have k1_0_4 := lq 4; have q1_0_4 := mq 4; clear lq mq; have lq := fun o => c1 (w.heap.size + 1) o (by first | (simp; done) | (simp; omega) | omega); have mq := fun o => f1 (w.heap.size + 1) o (by first | (simp; done) | (simp; omega) | omega); have k1_1_0 := lq 0; have q1_1_0 := mq 0; have k1_1_1 := lq 1; have q1_1_1 := mq 1; clear lq mq; have lq := fun o => c1 (w.heap.size + 2) o (by first | (simp; done) | (simp; omega) | omega); have mq := fun o => f1 (w.heap.size + 2) o (by first | (simp; done) | (simp; omega) | omega); have k1_2_0 := lq 0; have q1_2_0 := mq 0; have k1_2_1 := lq 1; have q1_2_1 := mq 1; have k1_2_2 := lq 2; have q1_2_2 := mq 2; have k1_2_3 := lq 3; have q1_2_3 := mq 3; have k1_2_4 := lq 4; have q1_2_4 := mq 4; clear lq mq; have z1_0 : w.heap.size < v1.heap.size := (by (try simp at z1); omega); have z1_1 : w.heap.size + 1 < v1.heap.size := (by (try simp at z1); omega); have z1_2 : w.heap.size + 2 < v1.heap.size := (by (try simp at z1); omega); (try simp at z1); clear c1 f1; simp [go_sem, *] at k1_0_0 q1_0_0 k1_0_1 q1_0_1 k1_0_2 q1_0_2 k1_0_3 q1_0_3 k1_0_4 q1_0_4 k1_1_0 q1_1_0 k1_1_1 q1_1_1 k1_2_0 q1_2_0 k1_2_1 q1_2_1 k1_2_2 q1_2_2 k1_2_3 q1_2_3 k1_2_4 q1_2_4
    go_wp2
    simp [bodyPost, results, Tryz.results50, go_sem, *]
    exact own_ext5 (Ext.setCell (Ext.setCell (show Ext w v1 from Ext.q) (p := ⟨w.heap.size + 1, 0, none⟩) (by simp) _) (p := ⟨w.heap.size + 1, 1, none⟩) (by simp) _) (b := w.heap.size + 1 + 1) (by omega) _ _ _ _ _
  · rw [e0] at C0
    go_wp2_with fail; refine (C0.out _ Ext.q).mono ?_; rintro e v1 ⟨rfl, x1⟩; obtain ⟨c1, f1⟩ := x1.rules; have z1 := x1.size; have lq := fun o => c1 (w.heap.size) o (by first | (simp; done) | (simp; omega) | omega); have mq := fun o => f1 (w.heap.size) o (by first | (simp; done) | (simp; omega) | omega); have k1_0_0 := lq 0; have q1_0_0 := mq 0; have k1_0_1 := lq 1; have q1_0_1 := mq 1; have k1_0_2 := lq 2; have q1_0_2 := mq 2; have k1_0_3 := lq 3; have q1_0_3 := mq 3; have k1_0_4 := lq 4; have q1_0_4 := mq 4; clear lq mq; have lq := fun o => c1 (w.heap.size + 1) o (by first | (simp; done) | (simp; omega) | omega); have mq := fun o => f1 (w.heap.size + 1) o (by first | (simp; done) | (simp; omega) | omega); have k1_1_0 := lq 0; have q1_1_0 := mq 0; have k1_1_1 := lq 1; have q1_1_1 := mq 1; clear lq mq; have lq := fun o => c1 (w.heap.size + 2) o (by first | (simp; done) | (simp; omega) | omega); have mq := fun o => f1 (w.heap.size + 2) o (by first | (simp; done) | (simp; omega) | omega); have k1_2_0 := lq 0; have q1_2_0 := mq 0; have k1_2_1 := lq 1; have q1_2_1 := mq 1; have k1_2_2 := lq 2; have q1_2_2 := mq 2; have k1_2_3 := lq 3; have q1_2_3 := mq 3; have k1_2_4 := lq 4; have q1_2_4 := mq 4; clear lq mq; have z1_0 : w.heap.size < v1.heap.size := (by (try simp at z1); omega); have z1_1 : w.heap.size + 1 < v1.heap.size := (by (try simp at z1); omega); have z1_2 : w.heap.size + 2 < v1.heap.size := (by (try simp at z1); omega); (try simp at z1); clear c1 f1; simp [go_sem, *] at k1_0_0 q1_0_0 k1_0_1 q1_0_1 k1_0_2 q1_0_2 k1_0_3 q1_0_3 k1_0_4 q1_0_4 k1_1_0 q1_1_0 k1_1_1 q1_1_1 k1_2_0 q1_2_0 k1_2_1 q1_2_1 k1_2_2 q1_2_2 k1_2_3 q1_2_3 k1_2_4 q1_2_4
    cases e1 : (shp xs)
    · rw [e1] at C1
      clear hb e0 e1
      go_wp2_with fail; refine (C1.out _ Ext.q).mono ?_; rintro e w' ⟨rfl, rfl⟩
      go_wp2
      simp [bodyPost, results, Tryz.results50, go_sem, *]
      exact own_ext5 (Ext.setCell (Ext.setCell (show Ext w v1 from Ext.q) (p := ⟨w.heap.size + 1, 0, none⟩) (by simp) _) (p := ⟨w.heap.size + 1, 1, none⟩) (by simp) _) (b := w.heap.size + 1 + 1) (by omega) _ _ _ _ _
    · rw [e1] at C1
      go_wp2_with fail; refine (C1.out _ Ext.q).mono ?_; rintro e w' ⟨rfl, rfl⟩
      cases e2 : (fanB In)
      · rw [e2] at C2
        clear hb e0 e1 e2
        go_wp2_with fail; refine (C2.out _).mono ?_; rintro e w' ⟨rfl, rfl⟩
        go_wp2
        simp [bodyPost, results, Tryz.results50, go_sem, *]
        exact own_ext5 (Ext.setCell (Ext.setCell (show Ext w v1 from Ext.q) (p := ⟨w.heap.size + 1, 0, none⟩) (by simp) _) (p := ⟨w.heap.size + 1, 1, none⟩) (by simp) _) (b := w.heap.size + 1 + 1) (by omega) _ _ _ _ _
      · rw [e2] at C2
        go_wp2_with fail; refine (C2.out _).mono ?_; rintro e w' ⟨rfl, rfl⟩
        have e3 : (gdF f) = false := by simpa [e0, e1, e2] using hb
        rw [e3] at C4
        clear hb e0 e1 e2 e3
        go_wp2_with fail; refine (C4.out _).mono ?_; rintro e w' ⟨rfl, rfl⟩
        go_wp2
        simp [bodyPost, results, Tryz.results50, go_sem, *]
        exact own_ext5 (Ext.setCell (Ext.setCell (show Ext w v1 from Ext.q) (p := ⟨w.heap.size + 1, 0, none⟩) (by simp) _) (p := ⟨w.heap.size + 1, 1, none⟩) (by simp) _) (b := w.heap.size + 1 + 1) (by omega) _ _ _ _ _
end Go.Proofs.YtkegefnpmijfiaaGreat
