/- fx.From of a whole number. root.floor. -/
import Derived.Test.YtkegefnpmijfiaaGreatQW1
import Derived.Test.YtkegefnpmijfiaaGreatQReckon
import Derived.Test.YtkegefnpmijfiaaGreatQW3
import Derived.Deep.LoopGhost
import Derived.WalkMore
namespace Go.Proofs.YtkegefnpmijfiaaGreat
open Go.RowKit
theorem fxFrom_ref {v : Value} {x : Int} {L : Nat} {w : World} (h : IntAt w v x L) :
    Calls Tryz.prog 92 #[v] w fun e w' => e = .returned (.tuple #[.int .i64 (wv x), .int .i64 (we x)]) ∧ Ext w w' := by
  have H := Lib.hid h
  obtain ⟨a, k, c, rfl, -⟩ := h.form
  clear h
  have S := Lib.hid (fun (u : World) h => wSmall_ref (v := .agg #[.bool (decide (x < 0)), .slice a k c]) (x := x) (L := L) (w := u) h)
  by_cases hb : -9223372036854775808 ≤ x ∧ x < 9223372036854775808
  · have s := S.out
    rw [(sb_of hb).1, (sb_of hb).2] at s
    have S' := Lib.hid s
    have W := Lib.hid (fun u => word_any x u)
    clear s S hb
    go_enter Tryz.func92, Tryz.ntmps92
    go_wp2_with fail; refine (S'.out _ (H.out.ext Ext.q)).mono ?_; rintro e v1 ⟨rfl, x1⟩; obtain ⟨c1, f1⟩ := x1.rules; have z1 := x1.size
    go_wp2_with fail; refine (W.out _).mono ?_; rintro e w' ⟨rfl, rfl⟩
    go_wp2
    go_ret2
    exact ⟨rfl, Ext.q⟩
  · have s := S.out
    have hb' : x < -9223372036854775808 ∨ 9223372036854775808 ≤ x := by omega
    rw [(sb_no hb').1, (sb_no hb').2] at s
    have S' := Lib.hid s
    have g : gd x = false := gd_f (by omega)
    rw [wv_no g, we_no g]
    clear s S hb hb' g
    go_enter Tryz.func92, Tryz.ntmps92
    go_wp2_with fail; refine (S'.out _ (H.out.ext Ext.q)).mono ?_; rintro e v1 ⟨rfl, x1⟩; obtain ⟨c1, f1⟩ := x1.rules; have z1 := x1.size
    go_wp2
    go_ret2
    exact ⟨rfl, Ext.q⟩
end Go.Proofs.YtkegefnpmijfiaaGreat
namespace Go.Proofs.YtkegefnpmijfiaaGreat
open Go.RowKit
set_option maxRecDepth 100000 in
theorem wfloor_0 {u : Value} {L : Nat} {w : World} (hu : IntAt w u 0 L) :
    Calls Tryz.prog 228 #[u] w fun e w' => ∃ q r, e = .returned q ∧ Ext w w' ∧ IntAt w' q r 1 ∧ IsRoot 0 r ∧ NewInt w q := by
  obtain ⟨a1, k1, c1, rfl, -⟩ := hu.form
  rw [show decide ((0 : Int) < 0) = false from rfl] at hu ⊢
  have HU := Lib.hid hu
  clear hu
  go_enter Tryz.func228, Tryz.ntmps228
  go_wp2_with fail
  go_step3
  go_wp2_with fail; refine (wZero_ref (HU.out.ext Ext.q)).mono ?_; rintro e v1 ⟨rfl, x1⟩; obtain ⟨c1, f1⟩ := x1.rules; have z1 := x1.size; have lq := fun o => c1 (w.heap.size) o (by first | (simp; done) | (simp; omega) | omega); have mq := fun o => f1 (w.heap.size) o (by first | (simp; done) | (simp; omega) | omega); have k1_0_0 := lq 0; have q1_0_0 := mq 0; have k1_0_1 := lq 1; have q1_0_1 := mq 1; clear lq mq; have lq := fun o => c1 (w.heap.size + 1) o (by first | (simp; done) | (simp; omega) | omega); have mq := fun o => f1 (w.heap.size + 1) o (by first | (simp; done) | (simp; omega) | omega); have k1_1_0 := lq 0; have q1_1_0 := mq 0; have k1_1_1 := lq 1; have q1_1_1 := mq 1; clear lq mq; have z1_0 : w.heap.size < v1.heap.size := (by (try simp at z1); omega); have z1_1 : w.heap.size + 1 < v1.heap.size := (by (try simp at z1); omega); (try simp at z1); clear c1 f1; simp [go_sem, *] at k1_0_0 q1_0_0 k1_0_1 q1_0_1 k1_1_0 q1_1_0 k1_1_1 q1_1_1
  go_wp2
  rw [Exit.noGoto_ret]
  change bodyPost _ _ _ _ _ _
  simp [bodyPost, results, Tryz.results228, go_sem, *]
  exact ⟨Ext.q, 0, IntAt.of rfl (NatAt.zero _ _), ⟨by omega, by omega, by omega⟩, NewInt.mk (New.nil _)⟩
set_option maxHeartbeats 2000000 in
set_option maxRecDepth 100000 in
theorem wfloor_pos {u : Value} {n : Int} {w : World} (hu : IntAt w u n 2) (n0 : 0 < n) (hn : n < 2 ^ 120) :
    Calls Tryz.prog 228 #[u] w fun e w' => ∃ q r, e = .returned q ∧ Ext w w' ∧ IntAt w' q r 1 ∧ IsRoot n r ∧ NewInt w q := by
  obtain ⟨a1, k1, c1, rfl, -⟩ := hu.form
  rw [show decide (n < 0) = false by simp; omega] at hu ⊢
  have HU := Lib.hid hu
  have nz : decide (n = 0) = false := by simp; omega
  have Z := Lib.hid (fun (u : World) h => wZero_ref (v := .agg #[.bool false, .slice a1 k1 c1]) (x := n) (L := 2) (w := u) h)
  rw [nz] at Z
  clear hu nz
  go_enter Tryz.func228, Tryz.ntmps228
  go_wp2_with fail
  go_step3
  go_wp2_with fail; refine (Z.out _ (HU.out.ext Ext.q)).mono ?_; rintro e v1 ⟨rfl, x1⟩; obtain ⟨c1, f1⟩ := x1.rules; have z1 := x1.size; have lq := fun o => c1 (w.heap.size) o (by first | (simp; done) | (simp; omega) | omega); have mq := fun o => f1 (w.heap.size) o (by first | (simp; done) | (simp; omega) | omega); have k1_0_0 := lq 0; have q1_0_0 := mq 0; have k1_0_1 := lq 1; have q1_0_1 := mq 1; clear lq mq; have lq := fun o => c1 (w.heap.size + 1) o (by first | (simp; done) | (simp; omega) | omega); have mq := fun o => f1 (w.heap.size + 1) o (by first | (simp; done) | (simp; omega) | omega); have k1_1_0 := lq 0; have q1_1_0 := mq 0; have k1_1_1 := lq 1; have q1_1_1 := mq 1; clear lq mq; have z1_0 : w.heap.size < v1.heap.size := (by (try simp at z1); omega); have z1_1 : w.heap.size + 1 < v1.heap.size := (by (try simp at z1); omega); (try simp at z1); clear c1 f1; simp [go_sem, *] at k1_0_0 q1_0_0 k1_0_1 q1_0_1 k1_1_0 q1_1_0 k1_1_1 q1_1_1
  go_wp2_with fail; refine (wLen_ref (HU.out.ext Ext.q) (Int.le_of_lt n0) (by omega)).mono ?_; rintro e v2 ⟨l, rfl, x2, bl⟩; obtain ⟨c2, f2⟩ := x2.rules; have z2 := x2.size; have lq := fun o => c2 (w.heap.size) o (by first | (simp; done) | (simp; omega) | omega); have mq := fun o => f2 (w.heap.size) o (by first | (simp; done) | (simp; omega) | omega); have k2_0_0 := lq 0; have q2_0_0 := mq 0; have k2_0_1 := lq 1; have q2_0_1 := mq 1; clear lq mq; have lq := fun o => c2 (w.heap.size + 1) o (by first | (simp; done) | (simp; omega) | omega); have mq := fun o => f2 (w.heap.size + 1) o (by first | (simp; done) | (simp; omega) | omega); have k2_1_0 := lq 0; have q2_1_0 := mq 0; have k2_1_1 := lq 1; have q2_1_1 := mq 1; clear lq mq; have z2_0 : w.heap.size < v2.heap.size := (by (try simp at z2); omega); have z2_1 : w.heap.size + 1 < v2.heap.size := (by (try simp at z2); omega); (try simp at z2); clear c2 f2; simp [go_sem, *] at k2_0_0 q2_0_0 k2_0_1 q2_0_1 k2_1_0 q2_1_0 k2_1_1 q2_1_1
  have lb : l ≤ 120 := by
    rcases bl.2 with h | h
    · omega
    · rcases Nat.lt_or_ge 120 l with h' | h'
      · have := pow_mono' (show (1 : Int) ≤ 2 by omega) (show 120 ≤ l - 1 by omega)
        omega
      · exact h'
  have NS := Lib.hid (newton_start bl.1)
  have tq : (l : Int).tdiv 2 = ((l / 2 : Nat) : Int) := by rw [Int.tdiv_eq_ediv_of_nonneg (by omega)]; omega
  have pw := fun (u : World) => wPower_ref (n := (l : Int) / 2 + 1) (L' := 2) (w := u) (by omega) (by omega) (by omega)
  rw [show p2 ((l : Int) / 2 + 1) = 2 ^ (l / 2 + 1) by unfold p2; congr 1] at pw
  have PW := Lib.hid pw
  clear bl pw
  go_wp2_with fail; refine (PW.out _).mono ?_; rintro e v3 ⟨q3, rfl, x3, h3⟩; obtain ⟨c3, f3⟩ := x3.rules; have z3 := x3.size; have lq := fun o => c3 (w.heap.size) o (by first | (simp; done) | (simp; omega) | omega); have mq := fun o => f3 (w.heap.size) o (by first | (simp; done) | (simp; omega) | omega); have k3_0_0 := lq 0; have q3_0_0 := mq 0; have k3_0_1 := lq 1; have q3_0_1 := mq 1; clear lq mq; have lq := fun o => c3 (w.heap.size + 1) o (by first | (simp; done) | (simp; omega) | omega); have mq := fun o => f3 (w.heap.size + 1) o (by first | (simp; done) | (simp; omega) | omega); have k3_1_0 := lq 0; have q3_1_0 := mq 0; have k3_1_1 := lq 1; have q3_1_1 := mq 1; clear lq mq; have z3_0 : w.heap.size < v3.heap.size := (by (try simp at z3); omega); have z3_1 : w.heap.size + 1 < v3.heap.size := (by (try simp at z3); omega); (try simp at z3); clear c3 f3; simp [go_sem, *] at k3_0_0 q3_0_0 k3_0_1 q3_0_1 k3_1_0 q3_1_0 k3_1_1 q3_1_1; (try clear k1_0_0); (try clear q1_0_0); (try clear k1_0_1); (try clear q1_0_1); (try clear k1_1_0); (try clear q1_1_0); (try clear k1_1_1); (try clear q1_1_1)
  obtain ⟨h3, n3⟩ := h3
  obtain ⟨ax, kx, cx, rfl, hx⟩ := h3.form
  have x0 := NS.out.1
  rw [mag_of (Int.le_of_lt x0)] at hx
  have HX := Lib.hid hx
  have NX := Lib.hid (n3 _ _ rfl)
  clear h3 n3 hx
  go_wp2_with fail
  have sx2 : decide ((2 : Int) ^ (l / 2 + 1) < 0) = false := by simp; omega
  have H1 := Lib.hid (HX.out.small (k := 1) (by have := pow_mono' (show (1 : Int) ≤ 2 by omega) (show l / 2 + 1 ≤ 63 by omega); have e : (2 : Int) ^ 63 < 2 ^ (64 * 1) := by decide
                                                exact Int.lt_of_le_of_lt this e))
  have wz3 : w.heap.size + 2 ≤ v3.heap.size := by omega
  go_step3
  go_wp2_with fail
  go_loopg [4] ((2 ^ (l / 2 + 1) : Int)).toNat (fun g y wr => ∃ (X : Int) (a : Option Addr) (k c : Nat), g = X.toNat ∧ Above n X ∧ wr.cell? ⟨v3.heap.size, 0, none⟩ = some (.bool false) ∧ wr.cell? ⟨v3.heap.size, 1, none⟩ = some (.slice a k c) ∧ wr.frozen? ⟨v3.heap.size, 0, none⟩ = false ∧ wr.frozen? ⟨v3.heap.size, 1, none⟩ = false ∧ wr.cell? ⟨w.heap.size, 0, none⟩ = some (.bool false) ∧ wr.cell? ⟨w.heap.size, 1, none⟩ = some (.slice a1 k1 c1) ∧ wr.cell? ⟨w.heap.size + 1, 0, none⟩ = some (.bool false) ∧ wr.cell? ⟨w.heap.size + 1, 1, none⟩ = some (.slice none 0 0) ∧ wr.frozen? ⟨w.heap.size + 1, 0, none⟩ = false ∧ wr.frozen? ⟨w.heap.size + 1, 1, none⟩ = false ∧ NatAt wr (.slice a k c) X 1 ∧ New w (.slice a k c) ∧ Off (w.heap.size + 1) (.slice a k c) ∧ v3.heap.size < wr.heap.size ∧ Ext w wr)
  case atStart =>
    have NW := NX.out.old (w := w) (by omega)
    have OX := NX.out.off (g := w.heap.size + 1) (by omega)
    exact ⟨_, ax, kx, cx, rfl, NS.out, by simp [go_sem, *], by simp [go_sem, *], by simp [go_sem, *], by simp [go_sem, *], by simp [go_sem, *], by simp [go_sem, *], by simp [go_sem, *], by simp [go_sem, *], by simp [go_sem, *], by simp [go_sem, *], H1.out.ext Ext.q, NW, OX, by first | (simp; done) | (simp; omega) | omega, Ext.q⟩
  case round =>
    obtain ⟨X, a, k, c, rfl, hab, t0, t1, t2, t3, t4, t5, t6, t7, t8, t9, hx, hnw, hox, tz, hext⟩ := hrel
    have X0 := hab.1
    have tw : w.heap.size < wr.heap.size := by omega
    have tw1 : w.heap.size + 1 < wr.heap.size := by omega
    have sX : false = decide (X < 0) := by symm; simp; omega
    have q0 : 0 ≤ n / X := Int.ediv_nonneg (by omega) (by omega)
    have sq : decide (X < 0) = decide (n / X < 0) := by rw [← sX]; symm; simp; omega
    have HXX := Lib.hid (IntAt.of (x := X) sX (by rw [mag_of (Int.le_of_lt X0)]; exact hx))
    have AB := Lib.hid hab
    have HNW := Lib.hid hnw
    have HOX := Lib.hid hox
    have SQ := Lib.hid sq
    have HXN : Hid (NatAt wr (.slice a k c) X 1) := Lib.hid hx
    have SX : Hid (false = decide (X < 0)) := Lib.hid sX
    clear hab hx hnw hox sX sq NX NS HX H1 sx2 PW Z
    go_wp2_with fail
    go_cut [4] (fun s4 wx => ∃ (g4 : Nat) (a4 : Option Addr) (k4 c4 : Nat), s4 = .pointer (some ⟨g4, 0, none⟩) ∧ wx.cell? ⟨g4, 0, none⟩ = some (.bool (decide ((X + n / X) / 2 < 0))) ∧ wx.cell? ⟨g4, 1, none⟩ = some (.slice a4 k4 c4) ∧ wx.cell? ⟨v3.heap.size, 0, none⟩ = some (.bool false) ∧ wx.cell? ⟨v3.heap.size, 1, none⟩ = some (.slice a k c) ∧ wx.frozen? ⟨v3.heap.size, 0, none⟩ = false ∧ wx.frozen? ⟨v3.heap.size, 1, none⟩ = false ∧ wx.cell? ⟨w.heap.size, 0, none⟩ = some (.bool false) ∧ wx.cell? ⟨w.heap.size, 1, none⟩ = some (.slice a1 k1 c1) ∧ wx.cell? ⟨w.heap.size + 1, 0, none⟩ = some (.bool false) ∧ wx.cell? ⟨w.heap.size + 1, 1, none⟩ = some (.slice none 0 0) ∧ wx.frozen? ⟨w.heap.size + 1, 0, none⟩ = false ∧ wx.frozen? ⟨w.heap.size + 1, 1, none⟩ = false ∧ NatAt wx (.slice a4 k4 c4) (mag ((X + n / X) / 2)) 3 ∧ New w (.slice a4 k4 c4) ∧ Off (w.heap.size + 1) (.slice a4 k4 c4) ∧ Off v3.heap.size (.slice a4 k4 c4) ∧ g4 < wx.heap.size ∧ v3.heap.size < wx.heap.size ∧ Ext wr wx ∧ Ext w wx)
    case first =>
      go_region_held3 (fun w' => w'.cell? ⟨v3.heap.size, 0, none⟩ = some (.bool false) ∧ w'.cell? ⟨v3.heap.size, 1, none⟩ = some (.slice a k c) ∧ w'.cell? ⟨w.heap.size, 0, none⟩ = some (.bool false) ∧ w'.cell? ⟨w.heap.size, 1, none⟩ = some (.slice a1 k1 c1) ∧ v3.heap.size < w'.heap.size ∧ Ext w w')
        (refine ⟨?_, ?_, ?_, ?_, ?_, ?_⟩ <;> first | (simp [go_sem, *]; done) | omega | (simp at z1; omega) | (simp at z2; omega) | (simp at z3; omega) | (simp at z4; omega) | exact Ext.q)
        (first
          | ((go_at_call 229; refine (wDown_ref (HU.out.ext Ext.q) (HXX.out.ext Ext.q) (by omega) X0 (by omega) (by omega)).mono ?_; rintro e v4 ⟨q4, rfl, x4, h4⟩; obtain ⟨c4, f4⟩ := x4.rules; have z4 := x4.size; (try (have k4_wr_heap_size_0 := c4 (wr.heap.size) 0 (by first | (simp; done) | (simp; omega) | omega); have q4_wr_heap_size_0 := f4 (wr.heap.size) 0 (by first | (simp; done) | (simp; omega) | omega); have k4_wr_heap_size_1 := c4 (wr.heap.size) 1 (by first | (simp; done) | (simp; omega) | omega); have q4_wr_heap_size_1 := f4 (wr.heap.size) 1 (by first | (simp; done) | (simp; omega) | omega); have z4_wr_heap_size : wr.heap.size < v4.heap.size := (by (try simp at z4); omega); simp [go_sem, *, -c4, -f4] at k4_wr_heap_size_0 q4_wr_heap_size_0 k4_wr_heap_size_1 q4_wr_heap_size_1)); (try (have k4_v4_heap_size_0 := c4 (v4.heap.size) 0 (by first | (simp; done) | (simp; omega) | omega); have q4_v4_heap_size_0 := f4 (v4.heap.size) 0 (by first | (simp; done) | (simp; omega) | omega); have k4_v4_heap_size_1 := c4 (v4.heap.size) 1 (by first | (simp; done) | (simp; omega) | omega); have q4_v4_heap_size_1 := f4 (v4.heap.size) 1 (by first | (simp; done) | (simp; omega) | omega); have z4_v4_heap_size : v4.heap.size < v4.heap.size := (by (try simp at z4); omega); simp [go_sem, *, -c4, -f4] at k4_v4_heap_size_0 q4_v4_heap_size_0 k4_v4_heap_size_1 q4_v4_heap_size_1)); (try (have k4_v5_heap_size_0 := c4 (v5.heap.size) 0 (by first | (simp; done) | (simp; omega) | omega); have q4_v5_heap_size_0 := f4 (v5.heap.size) 0 (by first | (simp; done) | (simp; omega) | omega); have k4_v5_heap_size_1 := c4 (v5.heap.size) 1 (by first | (simp; done) | (simp; omega) | omega); have q4_v5_heap_size_1 := f4 (v5.heap.size) 1 (by first | (simp; done) | (simp; omega) | omega); have z4_v5_heap_size : v5.heap.size < v4.heap.size := (by (try simp at z4); omega); simp [go_sem, *, -c4, -f4] at k4_v5_heap_size_0 q4_v5_heap_size_0 k4_v5_heap_size_1 q4_v5_heap_size_1)); have lq := fun o => c4 (w.heap.size) o (by first | (simp; done) | (simp; omega) | omega); have mq := fun o => f4 (w.heap.size) o (by first | (simp; done) | (simp; omega) | omega); have k4_0_0 := lq 0; have q4_0_0 := mq 0; have k4_0_1 := lq 1; have q4_0_1 := mq 1; clear lq mq; have lq := fun o => c4 (w.heap.size + 1) o (by first | (simp; done) | (simp; omega) | omega); have mq := fun o => f4 (w.heap.size + 1) o (by first | (simp; done) | (simp; omega) | omega); have k4_1_0 := lq 0; have q4_1_0 := mq 0; have k4_1_1 := lq 1; have q4_1_1 := mq 1; clear lq mq; have lq := fun o => c4 (v3.heap.size) o (by first | (simp; done) | (simp; omega) | omega); have mq := fun o => f4 (v3.heap.size) o (by first | (simp; done) | (simp; omega) | omega); have k4_v3_heap_size_0 := lq 0; have q4_v3_heap_size_0 := mq 0; have k4_v3_heap_size_1 := lq 1; have q4_v3_heap_size_1 := mq 1; clear lq mq; have z4_0 : w.heap.size < v4.heap.size := (by (try simp at z4); omega); have z4_1 : w.heap.size + 1 < v4.heap.size := (by (try simp at z4); omega); have z4_v3_heap_size : v3.heap.size < v4.heap.size := (by (try simp at z4); omega); (try simp at z4); clear c4 f4; simp [go_sem, *] at k4_0_0 q4_0_0 k4_0_1 q4_0_1 k4_1_0 q4_1_0 k4_1_1 q4_1_1 k4_v3_heap_size_0 q4_v3_heap_size_0 k4_v3_heap_size_1 q4_v3_heap_size_1); have H4 := Lib.hid h4.1; clear h4)
          | ((go_at_call 166; refine (wAdd_ref (IntAt.mono (HXX.out.ext Ext.q) (show 1 ≤ 2 by omega)) (H4.out.ext Ext.q) (by omega) SQ.out).mono ?_; rintro e v5 ⟨q5, rfl, x5, h5⟩; obtain ⟨c5, f5⟩ := x5.rules; have z5 := x5.size; (try (have k5_wr_heap_size_0 := c5 (wr.heap.size) 0 (by first | (simp; done) | (simp; omega) | omega); have q5_wr_heap_size_0 := f5 (wr.heap.size) 0 (by first | (simp; done) | (simp; omega) | omega); have k5_wr_heap_size_1 := c5 (wr.heap.size) 1 (by first | (simp; done) | (simp; omega) | omega); have q5_wr_heap_size_1 := f5 (wr.heap.size) 1 (by first | (simp; done) | (simp; omega) | omega); have z5_wr_heap_size : wr.heap.size < v5.heap.size := (by (try simp at z5); omega); simp [go_sem, *, -c5, -f5] at k5_wr_heap_size_0 q5_wr_heap_size_0 k5_wr_heap_size_1 q5_wr_heap_size_1)); (try (have k5_v4_heap_size_0 := c5 (v4.heap.size) 0 (by first | (simp; done) | (simp; omega) | omega); have q5_v4_heap_size_0 := f5 (v4.heap.size) 0 (by first | (simp; done) | (simp; omega) | omega); have k5_v4_heap_size_1 := c5 (v4.heap.size) 1 (by first | (simp; done) | (simp; omega) | omega); have q5_v4_heap_size_1 := f5 (v4.heap.size) 1 (by first | (simp; done) | (simp; omega) | omega); have z5_v4_heap_size : v4.heap.size < v5.heap.size := (by (try simp at z5); omega); simp [go_sem, *, -c5, -f5] at k5_v4_heap_size_0 q5_v4_heap_size_0 k5_v4_heap_size_1 q5_v4_heap_size_1)); (try (have k5_v5_heap_size_0 := c5 (v5.heap.size) 0 (by first | (simp; done) | (simp; omega) | omega); have q5_v5_heap_size_0 := f5 (v5.heap.size) 0 (by first | (simp; done) | (simp; omega) | omega); have k5_v5_heap_size_1 := c5 (v5.heap.size) 1 (by first | (simp; done) | (simp; omega) | omega); have q5_v5_heap_size_1 := f5 (v5.heap.size) 1 (by first | (simp; done) | (simp; omega) | omega); have z5_v5_heap_size : v5.heap.size < v5.heap.size := (by (try simp at z5); omega); simp [go_sem, *, -c5, -f5] at k5_v5_heap_size_0 q5_v5_heap_size_0 k5_v5_heap_size_1 q5_v5_heap_size_1)); have lq := fun o => c5 (w.heap.size) o (by first | (simp; done) | (simp; omega) | omega); have mq := fun o => f5 (w.heap.size) o (by first | (simp; done) | (simp; omega) | omega); have k5_0_0 := lq 0; have q5_0_0 := mq 0; have k5_0_1 := lq 1; have q5_0_1 := mq 1; clear lq mq; have lq := fun o => c5 (w.heap.size + 1) o (by first | (simp; done) | (simp; omega) | omega); have mq := fun o => f5 (w.heap.size + 1) o (by first | (simp; done) | (simp; omega) | omega); have k5_1_0 := lq 0; have q5_1_0 := mq 0; have k5_1_1 := lq 1; have q5_1_1 := mq 1; clear lq mq; have lq := fun o => c5 (v3.heap.size) o (by first | (simp; done) | (simp; omega) | omega); have mq := fun o => f5 (v3.heap.size) o (by first | (simp; done) | (simp; omega) | omega); have k5_v3_heap_size_0 := lq 0; have q5_v3_heap_size_0 := mq 0; have k5_v3_heap_size_1 := lq 1; have q5_v3_heap_size_1 := mq 1; clear lq mq; have z5_0 : w.heap.size < v5.heap.size := (by (try simp at z5); omega); have z5_1 : w.heap.size + 1 < v5.heap.size := (by (try simp at z5); omega); have z5_v3_heap_size : v3.heap.size < v5.heap.size := (by (try simp at z5); omega); (try simp at z5); clear c5 f5; simp [go_sem, *] at k5_0_0 q5_0_0 k5_0_1 q5_0_1 k5_1_0 q5_1_0 k5_1_1 q5_1_1 k5_v3_heap_size_0 q5_v3_heap_size_0 k5_v3_heap_size_1 q5_v3_heap_size_1); have H5 := Lib.hid h5.1; clear h5 H4)
          | ((go_at_call 268; refine (wRight_nn (n := 1) (H5.out.ext Ext.q) (by omega) (by omega) (by omega) (by omega)).mono ?_; rintro e v6 ⟨q6, rfl, x6, h6⟩; obtain ⟨c6, f6⟩ := x6.rules; have z6 := x6.size; (try (have k6_wr_heap_size_0 := c6 (wr.heap.size) 0 (by first | (simp; done) | (simp; omega) | omega); have q6_wr_heap_size_0 := f6 (wr.heap.size) 0 (by first | (simp; done) | (simp; omega) | omega); have k6_wr_heap_size_1 := c6 (wr.heap.size) 1 (by first | (simp; done) | (simp; omega) | omega); have q6_wr_heap_size_1 := f6 (wr.heap.size) 1 (by first | (simp; done) | (simp; omega) | omega); have z6_wr_heap_size : wr.heap.size < v6.heap.size := (by (try simp at z6); omega); simp [go_sem, *, -c6, -f6] at k6_wr_heap_size_0 q6_wr_heap_size_0 k6_wr_heap_size_1 q6_wr_heap_size_1)); (try (have k6_v4_heap_size_0 := c6 (v4.heap.size) 0 (by first | (simp; done) | (simp; omega) | omega); have q6_v4_heap_size_0 := f6 (v4.heap.size) 0 (by first | (simp; done) | (simp; omega) | omega); have k6_v4_heap_size_1 := c6 (v4.heap.size) 1 (by first | (simp; done) | (simp; omega) | omega); have q6_v4_heap_size_1 := f6 (v4.heap.size) 1 (by first | (simp; done) | (simp; omega) | omega); have z6_v4_heap_size : v4.heap.size < v6.heap.size := (by (try simp at z6); omega); simp [go_sem, *, -c6, -f6] at k6_v4_heap_size_0 q6_v4_heap_size_0 k6_v4_heap_size_1 q6_v4_heap_size_1)); (try (have k6_v5_heap_size_0 := c6 (v5.heap.size) 0 (by first | (simp; done) | (simp; omega) | omega); have q6_v5_heap_size_0 := f6 (v5.heap.size) 0 (by first | (simp; done) | (simp; omega) | omega); have k6_v5_heap_size_1 := c6 (v5.heap.size) 1 (by first | (simp; done) | (simp; omega) | omega); have q6_v5_heap_size_1 := f6 (v5.heap.size) 1 (by first | (simp; done) | (simp; omega) | omega); have z6_v5_heap_size : v5.heap.size < v6.heap.size := (by (try simp at z6); omega); simp [go_sem, *, -c6, -f6] at k6_v5_heap_size_0 q6_v5_heap_size_0 k6_v5_heap_size_1 q6_v5_heap_size_1)); have lq := fun o => c6 (w.heap.size) o (by first | (simp; done) | (simp; omega) | omega); have mq := fun o => f6 (w.heap.size) o (by first | (simp; done) | (simp; omega) | omega); have k6_0_0 := lq 0; have q6_0_0 := mq 0; have k6_0_1 := lq 1; have q6_0_1 := mq 1; clear lq mq; have lq := fun o => c6 (w.heap.size + 1) o (by first | (simp; done) | (simp; omega) | omega); have mq := fun o => f6 (w.heap.size + 1) o (by first | (simp; done) | (simp; omega) | omega); have k6_1_0 := lq 0; have q6_1_0 := mq 0; have k6_1_1 := lq 1; have q6_1_1 := mq 1; clear lq mq; have lq := fun o => c6 (v3.heap.size) o (by first | (simp; done) | (simp; omega) | omega); have mq := fun o => f6 (v3.heap.size) o (by first | (simp; done) | (simp; omega) | omega); have k6_v3_heap_size_0 := lq 0; have q6_v3_heap_size_0 := mq 0; have k6_v3_heap_size_1 := lq 1; have q6_v3_heap_size_1 := mq 1; clear lq mq; have z6_0 : w.heap.size < v6.heap.size := (by (try simp at z6); omega); have z6_1 : w.heap.size + 1 < v6.heap.size := (by (try simp at z6); omega); have z6_v3_heap_size : v3.heap.size < v6.heap.size := (by (try simp at z6); omega); (try simp at z6); clear c6 f6; simp [go_sem, *] at k6_0_0 q6_0_0 k6_0_1 q6_0_1 k6_1_0 q6_1_0 k6_1_1 q6_1_1 k6_v3_heap_size_0 q6_v3_heap_size_0 k6_v3_heap_size_1 q6_v3_heap_size_1); rw [show p2 1 = 2 from rfl] at h6; obtain ⟨h6, n6⟩ := h6; obtain ⟨a4, k4, c4, rfl, hf6⟩ := h6.form; have H6 := Lib.hid hf6; have N6 := Lib.hid (n6 _ _ rfl); clear h6 n6 hf6 H5))
      all_goals
        go_wp2_with fail
        (try have A0 := Lib.hid (N6.out.off (g := wr.heap.size) (by first | (simp; done) | (simp; omega) | omega))); (try have A1 := Lib.hid (N6.out.off (g := v4.heap.size) (by first | (simp; done) | (simp; omega) | omega))); (try have A2 := Lib.hid (N6.out.off (g := v5.heap.size) (by first | (simp; done) | (simp; omega) | omega))); (try have A3 := Lib.hid (NatAt.old H6.out (g := v6.heap.size) (by first | (simp; done) | (simp; omega) | omega)))
        have ON := N6.out.old (w := w) (by first | (simp; done) | (simp; omega) | omega)
        have OR := N6.out.off (g := w.heap.size + 1) (by first | (simp; done) | (simp; omega) | omega)
        have OG := N6.out.off (g := v3.heap.size) (by first | (simp; done) | (simp; omega) | omega)
        go_meet
        exact ⟨_, a4, k4, c4, rfl, by simp [go_sem, *], by simp [go_sem, *], by simp [go_sem, *], by simp [go_sem, *], by simp [go_sem, *], by simp [go_sem, *], by simp [go_sem, *], by simp [go_sem, *], by simp [go_sem, *], by simp [go_sem, *], by simp [go_sem, *], by simp [go_sem, *], (by repeat (first | with_reducible exact H6.out | with_reducible refine NatAt.alloc' ?_ | with_reducible refine NatAt.drew' ?_ | with_reducible refine NatAt.drewN' ?_ | with_reducible refine NatAt.off ?_ A0.out | with_reducible refine NatAt.off ?_ A1.out | with_reducible refine NatAt.off ?_ A2.out | with_reducible refine NatAt.off ?_ A3.out | with_reducible refine NatAt.ext ?_ x1 | with_reducible refine NatAt.ext ?_ x2 | with_reducible refine NatAt.ext ?_ x3 | with_reducible refine NatAt.ext ?_ x4 | with_reducible refine NatAt.ext ?_ x5 | with_reducible refine NatAt.ext ?_ x6 | with_reducible refine NatAt.ext ?_ x7 | with_reducible refine NatAt.ext ?_ hx | with_reducible refine NatAt.ext ?_ hext)), ON, OR, OG, by first | (simp; done) | (simp; omega) | omega, by first | (simp; done) | (simp; omega) | omega, Ext.q, Ext.q⟩
    case rest =>
      clear t0 t1 t2 t3 t4 t5 t6 t7 t8 t9
      obtain ⟨g4, a4, k4, c4, rfl, y0, y1, t0, t1, t2, t3, t4, t5, t6, t7, t8, t9, hy, hny, hoy, hgy, gz, vz, hx, hext2⟩ := hcut
      have HY := Lib.hid hy
      have NY := Lib.hid hny
      have OY := Lib.hid hoy
      have GY := Lib.hid hgy
      clear hy hny hoy hgy
      have Y0 : 0 ≤ (X + n / X) / 2 := by omega
      have tw2 : w.heap.size + 1 < wc.heap.size := by omega
      have NST := Lib.hid (newton_stop AB.out)
      have NSP := Lib.hid (newton_step AB.out n0)
      have XL := Lib.hid HXN.out.lt
      generalize (X + n / X) / 2 = Y at *
      go_wp2_with fail; refine (wCmp_ref (IntAt.of rfl (HY.out.ext Ext.q)) (IntAt.mono (HXX.out.ext (hx.tr Ext.q)) (show 1 ≤ 3 by omega)) Y0 (Int.le_of_lt X0) (by omega)).mono ?_; rintro e v7 ⟨rfl, x7⟩; obtain ⟨c7, f7⟩ := x7.rules; have z7 := x7.size; have lq := fun o => c7 (w.heap.size) o (by first | (simp; done) | (simp; omega) | omega); have mq := fun o => f7 (w.heap.size) o (by first | (simp; done) | (simp; omega) | omega); have k7_0_0 := lq 0; have q7_0_0 := mq 0; have k7_0_1 := lq 1; have q7_0_1 := mq 1; clear lq mq; have lq := fun o => c7 (w.heap.size + 1) o (by first | (simp; done) | (simp; omega) | omega); have mq := fun o => f7 (w.heap.size + 1) o (by first | (simp; done) | (simp; omega) | omega); have k7_1_0 := lq 0; have q7_1_0 := mq 0; have k7_1_1 := lq 1; have q7_1_1 := mq 1; clear lq mq; have lq := fun o => c7 (v3.heap.size) o (by first | (simp; done) | (simp; omega) | omega); have mq := fun o => f7 (v3.heap.size) o (by first | (simp; done) | (simp; omega) | omega); have k7_v3_heap_size_0 := lq 0; have q7_v3_heap_size_0 := mq 0; have k7_v3_heap_size_1 := lq 1; have q7_v3_heap_size_1 := mq 1; clear lq mq; have lq := fun o => c7 (g4) o (by first | (simp; done) | (simp; omega) | omega); have mq := fun o => f7 (g4) o (by first | (simp; done) | (simp; omega) | omega); have k7_g4_0 := lq 0; have q7_g4_0 := mq 0; have k7_g4_1 := lq 1; have q7_g4_1 := mq 1; clear lq mq; have z7_0 : w.heap.size < v7.heap.size := (by (try simp at z7); omega); have z7_1 : w.heap.size + 1 < v7.heap.size := (by (try simp at z7); omega); have z7_v3_heap_size : v3.heap.size < v7.heap.size := (by (try simp at z7); omega); have z7_g4 : g4 < v7.heap.size := (by (try simp at z7); omega); (try simp at z7); clear c7 f7; simp [go_sem, *] at k7_0_0 q7_0_0 k7_0_1 q7_0_1 k7_1_0 q7_1_0 k7_1_1 q7_1_1 k7_v3_heap_size_0 q7_v3_heap_size_0 k7_v3_heap_size_1 q7_v3_heap_size_1 k7_g4_0 q7_g4_0 k7_g4_1 q7_g4_1; (try clear k3_0_0); (try clear q3_0_0); (try clear k3_0_1); (try clear q3_0_1); (try clear k3_1_0); (try clear q3_1_0); (try clear k3_1_1); (try clear q3_1_1)
      rcases Int.lt_or_le Y X with hs | hs
      · rw [cmpI_lt hs]
        have HS := Lib.hid hs
        have sY : decide (Y < 0) = false := by simp; omega
        have HY1 := Lib.hid (show NatAt wc (.slice a4 k4 c4) Y 1 from NatAt.small (by have h := HY.out; rw [mag_of Y0] at h; exact h) (Int.lt_trans hs XL.out))
        clear hs
        go_wp2_with fail
        go_roundg Y.toNat
        case rel => exact ⟨Y, a4, k4, c4, rfl, NSP.out HS.out, by simp [go_sem, *], by simp [go_sem, *], by simp [go_sem, *], by simp [go_sem, *], by simp [go_sem, *], by simp [go_sem, *], by simp [go_sem, *], by simp [go_sem, *], by simp [go_sem, *], by simp [go_sem, *], (by repeat (first | with_reducible exact HY1.out | with_reducible refine NatAt.alloc' ?_ | with_reducible refine NatAt.drew' ?_ | with_reducible refine NatAt.drewN' ?_ | with_reducible refine NatAt.off ?_ GY.out | with_reducible refine NatAt.ext ?_ x1 | with_reducible refine NatAt.ext ?_ x2 | with_reducible refine NatAt.ext ?_ x3 | with_reducible refine NatAt.ext ?_ x4 | with_reducible refine NatAt.ext ?_ x5 | with_reducible refine NatAt.ext ?_ x6 | with_reducible refine NatAt.ext ?_ x7 | with_reducible refine NatAt.ext ?_ hx | with_reducible refine NatAt.ext ?_ hext)), NY.out, OY.out, by first | (simp; done) | (simp; omega) | omega, Ext.q⟩
        case measure => have := HS.out; omega
      · have c0 : 0 ≤ cmpI Y X := by unfold cmpI; rw [if_neg (by omega)]; split <;> omega
        have HS := Lib.hid hs
        clear hs
        generalize cmpI Y X = cc at *
        go_wp2
        rw [Exit.noGoto_ret]
        change bodyPost _ _ _ _ _ _
        simp [bodyPost, results, Tryz.results228, go_sem, *]
        have HXM := Lib.hid (show NatAt wr (.slice a k c) (mag X) 1 by rw [mag_of (Int.le_of_lt X0)]; exact HXN.out)
        exact ⟨Ext.q, X, IntAt.of SX.out (by repeat (first | with_reducible exact HXM.out | with_reducible refine NatAt.alloc' ?_ | with_reducible refine NatAt.drew' ?_ | with_reducible refine NatAt.drewN' ?_ | with_reducible refine NatAt.off ?_ HOX.out | with_reducible refine NatAt.ext ?_ x1 | with_reducible refine NatAt.ext ?_ x2 | with_reducible refine NatAt.ext ?_ x3 | with_reducible refine NatAt.ext ?_ x4 | with_reducible refine NatAt.ext ?_ x5 | with_reducible refine NatAt.ext ?_ x6 | with_reducible refine NatAt.ext ?_ x7 | with_reducible refine NatAt.ext ?_ hx | with_reducible refine NatAt.ext ?_ hext)), NST.out HS.out, NewInt.mk HNW.out⟩
/-- root.floor: the root, rounded down. -/
theorem wfloor_ref {u : Value} {n : Int} {w : World} (hu : IntAt w u n 2) (n0 : 0 ≤ n) (hn : n < 2 ^ 120) :
    Calls Tryz.prog 228 #[u] w fun e w' => ∃ q r, e = .returned q ∧ Ext w w' ∧ IntAt w' q r 1 ∧ IsRoot n r ∧ NewInt w q := by
  rcases Int.lt_or_eq_of_le n0 with h | h
  · exact wfloor_pos hu h hn
  · subst h; exact wfloor_0 hu
end Go.Proofs.YtkegefnpmijfiaaGreat
