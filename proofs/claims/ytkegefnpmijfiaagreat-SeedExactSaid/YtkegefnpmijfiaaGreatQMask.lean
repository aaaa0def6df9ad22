/- seed.Mask. -/
import Derived.Test.YtkegefnpmijfiaaGreatQShuffle
import Derived.Deep.LoopGhost
import Derived.Deep.Cut
namespace Go.Proofs.YtkegefnpmijfiaaGreat
open Go.RowKit Go.Shelf
attribute [local go_sem ↓] Go.wp_at_zero Go.wp_at_succ
def lenOf : Value → Nat
  | .slice _ n _ => n
  | _ => 0
theorem mown_form {W : World} {base : Nat} {e : TypeId} {size : Nat} {v : Value} {k : Nat} {xs : List Value} (h : W.ownsRow base e size v k xs) : ∃ a cap, v = .slice a k cap := by
  rcases h.2 with ⟨rfl, rfl⟩ | ⟨g, cap, cur, rfl, _⟩
  · exact ⟨_, _, rfl⟩
  · exact ⟨_, _, rfl⟩
theorem own_formP {W : World} {base : Nat} {e : TypeId} {size : Nat} {v : Value} {k : Nat} {xs : List Value} (h : W.ownsRow base e size v (k + 1) xs) : ∃ g cap, v = .slice (some ⟨g, 0, none⟩) (k + 1) cap ∧ base ≤ g ∧ g < W.heap.size := by
  rcases h.2 with ⟨_, h0⟩ | ⟨g, cap, cur, rfl, hb, hg, _⟩
  · omega
  · exact ⟨g, cap, rfl, hb, (Array.getElem?_eq_some_iff.1 hg).1⟩
/-- What a mask tells: its numbers and the generator behind it, in new memory. -/
structure MaskTo (base : Nat) (w : World) (o v : Value) (q : Int) (n : Nat) (g : Gen) : Prop where
  own : w.ownsRow base 3 1 o n ((masks q n [] g).1.map (Value.int .i64))
  rand : RandNew base w v (masks q n [] g).2
theorem MaskTo.of {base : Nat} {w : World} {o v : Value} {q : Int} {n : Nat} {g G : Gen} {xs : List Int} (h : w.ownsRow base 3 1 o n (xs.map (Value.int .i64))) (k : RandNew base w v G) (e : masks q n [] g = (xs, G)) : MaskTo base w o v q n g :=
  ⟨by rw [e]; exact h, by rw [e]; exact k⟩
set_option maxHeartbeats 2000000 in
set_option maxRecDepth 100000 in
theorem mask_new {n : Nat} {q : Int} {g : Gen} {v : Value} {w : World} (h : RandAt w v g) (hf : g.Fine) (n1 : 1 ≤ n) (n2 : n ≤ 65536) (q0 : 0 ≤ q) (q1 : q ≤ 99) :
    Calls Tryz.prog 41 #[v, .int .i64 n, .int .i64 q] w fun e w' => ∃ o v', e = .returned (.tuple #[o, v', .int .i64 0]) ∧ Ext w w' ∧ MaskTo w.heap.size w' o v' q n g := by
  have GOOD := Lib.hid (fun (W : World) (x : Ext w W) => good_rand (h.ext x) hf.1)
  have OWN : Hid (∀ (u : Value) (G : Gen) (W : World), RandAt w u G → G.Fine → Ext w W → Calls Tryz.prog 121 #[u] W fun e w' => ∃ a m c p q r s, e = .returned (.agg #[.slice a m c, .int .u64 p, .int .u64 q, .int .u64 r, .int .u64 s]) ∧ Ext W w' ∧ Hid (RandNew W.heap.size w' (.agg #[.slice a m c, .int .u64 p, .int .u64 q, .int .u64 r, .int .u64 s]) G)) := Lib.hid fun u G W hu hG x => (own_seed (hu.ext x) (by have := hG.len; omega)).mono (by
    rintro e w' ⟨v', rfl, x, h⟩
    obtain ⟨a, m, c, p, q, r, s, rfl, -⟩ := h.at.form
    exact ⟨a, m, c, p, q, r, s, rfl, x, Lib.hid h⟩)
  have HR := Lib.hid h
  have HF := Lib.hid hf
  obtain ⟨i0, hi0, hz0, hz1, hz2⟩ := info_parts infoI
  clear hf
  obtain ⟨a, m, c, p, qq, r, s, rfl, -⟩ := h.form
  clear h
  have dq0 : decide (q < 0) = false := by simp; omega
  have dq1 : decide (99 < q) = false := by simp; omega
  go_enter Tryz.func41, Tryz.ntmps41
  go_wp2_with fail
  (try go_step3)
  go_wp2_with fail
  refine (GOOD.out _ Ext.q).mono ?_; rintro e v1 ⟨rfl, x1⟩; obtain ⟨c1, f1⟩ := x1.rules; have z1 := x1.size
  have b0 : Blk v1 w.heap.size 62 (rv a m c p qq r s) := ((Blk.new w _ _).alloc _).ext x1
  have b1 : Blk v1 (w.heap.size + 1) 62 (rv none 0 0 0 0 0 0) := by have := (Blk.new (w.alloc (.cells (rv a m c p qq r s) 62)) 62 (rv none 0 0 0 0 0 0)).ext x1; simpa using this
  have z1 := x1.size
  simp at z1
  have xw : Ext w v1 := Ext.q
  have B0 := Lib.hid b0
  have B1 := Lib.hid b1
  clear b0 b1 c1 f1 x1
  go_wp2_with fail; refine (seedCount_ok _ (by omega) (by omega) _).mono ?_; rintro e w' ⟨rfl, rfl⟩
  go_wp2_with fail
  (try go_step3)
  go_wp2_with fail
  obtain ⟨V, hV⟩ : ∃ V, v1.heap.size = V := ⟨_, rfl⟩
  rw [hV] at z1
  have hV1 : V ≤ v1.heap.size := by omega
  clear hV
  go_loopw [9] (fun lv wr => ∃ (k : Nat) (xs : List Int) (G : Gen) (a : Option Addr) (m c : Nat) (p qq r s : Int) (lq : Value), lv = lq ∧ k < n ∧ masks q k [] g = (xs, G) ∧ xs.length = k ∧ wr.ownsRow V 3 1 lq k (xs.map (Value.int .i64)) ∧ Blk wr w.heap.size 62 (rv a m c p qq r s) ∧ Blk wr (w.heap.size + 1) 62 (rv none 0 0 0 0 0 0) ∧ RandAt w (.agg (rv a m c p qq r s)) G ∧ G.Fine ∧ V ≤ wr.heap.size ∧ Ext w wr) (fun lv _ => n - lenOf lv)
  case atStart => exact ⟨0, [], g, a, m, c, p, qq, r, s, _, rfl, by omega, rfl, rfl, World.ownsRow_nil _ _ _ _, B0.out, B1.out, HR.out, HF.out, by omega, xw⟩
  case round =>
    clear B0 B1 HR HF xw GOOD
    obtain ⟨k, xs, G, a, m, c, p, qq, r, s, lq, rfl, hk, hG, hlen, hown, b0, b1, hr, hFG, hVw, hext⟩ := hrel
    have DR := Lib.hid (draw_few (n := 100) hr (OldAs.of_ext hext) hFG few_100)
    obtain ⟨X0, X1⟩ := G.below_bd (n := 100) (by decide)
    obtain ⟨X, hX⟩ : ∃ X, G.below 100 = X := ⟨_, rfl⟩
    obtain ⟨G2, hG2⟩ : ∃ G2, G.past 100 = G2 := ⟨_, rfl⟩
    have FG2 : Hid G2.Fine := Lib.hid (by rw [← hG2]; exact Gen.past_fine hFG _)
    rw [hX, hG2] at DR
    rw [hX] at X0 X1
    have HX := Lib.hid hX
    have HG2 := Lib.hid hG2
    have HG := Lib.hid hG
    have HLEN := Lib.hid hlen
    have HOWN := Lib.hid hown
    have k0 := (b0.cell 0).trans (show (rv a m c p qq r s)[0]? = some (.slice a m c) from rfl)
    have k1 := (b0.cell 1).trans (show (rv a m c p qq r s)[1]? = some (.int .u64 p) from rfl)
    have k2 := (b0.cell 2).trans (show (rv a m c p qq r s)[2]? = some (.int .u64 qq) from rfl)
    have k3 := (b0.cell 3).trans (show (rv a m c p qq r s)[3]? = some (.int .u64 r) from rfl)
    have k4 := (b0.cell 4).trans (show (rv a m c p qq r s)[4]? = some (.int .u64 s) from rfl)
    have f0 := b0.frozen 0
    have f1 := b0.frozen 1
    have f2 := b0.frozen 2
    have f3 := b0.frozen 3
    have f4 := b0.frozen 4
    have lt0 := b0.lt
    have B0 := Lib.hid b0
    have B1 := Lib.hid b1
    obtain ⟨al, cl, rfl⟩ := mown_form hown
    have hn2 : k + 1 ≤ maxLen := by unfold maxLen; omega
    have hn3 : (k + 1) * 8 ≤ 140737488355328 := by omega
    clear hX hG2 hG hlen hown b0 b1 hr hFG
    go_wp2_with fail
    refine (DR.out).mono ?_; rintro e v2 ⟨u2, rfl, x2, h2⟩; obtain ⟨c2, f2⟩ := x2.rules; have z2 := x2.size; have lq := fun o => c2 (w.heap.size) o (by first | (simp; done) | (simp; omega) | omega); have mq := fun o => f2 (w.heap.size) o (by first | (simp; done) | (simp; omega) | omega); have k2_0_0 := lq 0; have q2_0_0 := mq 0; have k2_0_1 := lq 1; have q2_0_1 := mq 1; have k2_0_2 := lq 2; have q2_0_2 := mq 2; have k2_0_3 := lq 3; have q2_0_3 := mq 3; have k2_0_4 := lq 4; have q2_0_4 := mq 4; clear lq mq; have z2_0 : w.heap.size < v2.heap.size := (by (try simp at z2); omega); (try simp at z2); clear c2 f2; simp [go_sem, *] at k2_0_0 q2_0_0 k2_0_1 q2_0_1 k2_0_2 q2_0_2 k2_0_3 q2_0_3 k2_0_4 q2_0_4
    obtain ⟨a2, m2, l2, p2, q2, r2, s2, rfl, -⟩ := h2.form
    have HR2 := Lib.hid h2
    have BX := Lib.hid (((((((B0.out.ext x2).set_ 0 (.slice a2 m2 l2)).set_ 1 (.int .u64 p2)).set_ 2 (.int .u64 q2)).set_ 3 (.int .u64 r2)).set_ 4 (.int .u64 s2)))
    have BY := Lib.hid ((((((B1.out.ext x2).far (p := ⟨w.heap.size, 0, none⟩) (by simp) (.slice a2 m2 l2)).far (p := ⟨w.heap.size, 1, none⟩) (by simp) (.int .u64 p2)).far (p := ⟨w.heap.size, 2, none⟩) (by simp) (.int .u64 q2)).far (p := ⟨w.heap.size, 3, none⟩) (by simp) (.int .u64 r2)).far (p := ⟨w.heap.size, 4, none⟩) (by simp) (.int .u64 s2))
    have hWs : ((((((v2.setCell ⟨w.heap.size, 0, none⟩ (.slice a2 m2 l2)).setCell ⟨w.heap.size, 1, none⟩ (.int .u64 p2)).setCell ⟨w.heap.size, 2, none⟩ (.int .u64 q2)).setCell ⟨w.heap.size, 3, none⟩ (.int .u64 r2)).setCell ⟨w.heap.size, 4, none⟩ (.int .u64 s2))).heap.size = v2.heap.size := by simp
    clear h2 B0 B1 k0 k1 k2 k3 k4 f0 f1 f2 f3 f4 DR
    by_cases hq : q ≤ X
    · have hq0 : (0 : Int) ≤ X := X0
      have NEWS := Lib.hid (show ∀ j u, [Value.int .i64 1][j]? = some u → (World.alloc (((((v2.setCell ⟨w.heap.size, 0, none⟩ (.slice a2 m2 l2)).setCell ⟨w.heap.size, 1, none⟩ (.int .u64 p2)).setCell ⟨w.heap.size, 2, none⟩ (.int .u64 q2)).setCell ⟨w.heap.size, 3, none⟩ (.int .u64 r2)).setCell ⟨w.heap.size, 4, none⟩ (.int .u64 s2)) (.cells #[.int .i64 1] 3)).cell? ((⟨v2.heap.size, 0, none⟩ : Addr).add j) = some u by rw [← hWs]; exact newsC_1 _ _ _)
      have HW := Lib.hid (show (World.alloc (((((v2.setCell ⟨w.heap.size, 0, none⟩ (.slice a2 m2 l2)).setCell ⟨w.heap.size, 1, none⟩ (.int .u64 p2)).setCell ⟨w.heap.size, 2, none⟩ (.int .u64 q2)).setCell ⟨w.heap.size, 3, none⟩ (.int .u64 r2)).setCell ⟨w.heap.size, 4, none⟩ (.int .u64 s2)) (.cells #[.int .i64 1] 3)).ownsRow V 3 1 (.slice al k cl) k (xs.map (Value.int .i64)) from World.ownsRow.alloc (own_row5 (own_old HOWN.out x2) (by omega) _ _ _ _ _) _)
      have XE : Ext w (World.alloc (((((v2.setCell ⟨w.heap.size, 0, none⟩ (.slice a2 m2 l2)).setCell ⟨w.heap.size, 1, none⟩ (.int .u64 p2)).setCell ⟨w.heap.size, 2, none⟩ (.int .u64 q2)).setCell ⟨w.heap.size, 3, none⟩ (.int .u64 r2)).setCell ⟨w.heap.size, 4, none⟩ (.int .u64 s2)) (.cells #[.int .i64 1] 3)) := Ext.alloc (own_ext5 (hext.tr x2) (Nat.le_refl _) _ _ _ _ _) _
      have BE0 := Lib.hid (BX.out.alloc (.cells #[.int .i64 1] 3))
      have BE1 := Lib.hid (BY.out.alloc (.cells #[.int .i64 1] 3))
      have hrow : ∀ r, (Value.slice al k cl).ownBlock = some r → V ≤ r := fun r hr => (HOWN.out.lt r hr).1
      clear hWs HOWN BX BY
      go_wp2_with (at_builtin; refine (show Hid _ from ?_).out)
      refine Lib.hid ?_
      refine wpList_append_own _ rfl _ _ 23 rfl V 3 i0 (.int .i64 0) 1 8 Tryz.underlying23 hi0 hz0 hz1 hz2 rfl (by decide) (.slice al k cl) k (xs.map (Value.int .i64)) rfl HW.out ⟨v2.heap.size, 0, none⟩ 1 1 [.int .i64 1] rfl rfl NEWS.out (oneC_1 _ _) hn2 hn3 (by simp; omega) ?_
      intro v' w1 hown1 hgrow _
      have X9 : Ext w w1 := Ext.grown XE hgrow (fun r hr => by have := hrow r hr; omega)
      have B0' := Lib.hid (BE0.out.grown hgrow (fun e => by have := hrow _ e.symm; omega))
      have B1' := Lib.hid (BE1.out.grown hgrow (fun e => by have := hrow _ e.symm; omega))
      have hVz : V ≤ w1.heap.size := by have := hgrow.size; simp at this; omega
      have HO := Lib.hid hown1
      obtain ⟨gb, cp, rfl, hgb, -⟩ := own_formP hown1
      clear hgrow hown1
      have NX := Lib.hid (show masks q (k + 1) [] g = (xs ++ [1], G2) by rw [masks_app, HG.out]; simp only [masks]; rw [HG2.out, HX.out, if_pos hq])
      by_cases hkn : k + 1 = n
      · have hkn1 : ((k : Int) + 1 == (n : Int)) = true := by simp; omega
        subst hkn
        have HO2 := Lib.hid (show w1.ownsRow V 3 1 (.slice (some ⟨gb, 0, none⟩) (k + 1) cp) (k + 1) ((xs ++ [1]).map (Value.int .i64)) by rw [List.map_append]; exact HO.out)
        have H2 := Lib.hid (HR2.out)
        have OWN2 := Lib.hid (fun (W : World) (x : Ext w W) => OWN.out _ G2 W H2.out FG2.out x)
        have k0 := (B0'.out.cell 0).trans (show (rv a2 m2 l2 p2 q2 r2 s2)[0]? = some (.slice a2 m2 l2) from rfl)
        have k1 := (B0'.out.cell 1).trans (show (rv a2 m2 l2 p2 q2 r2 s2)[1]? = some (.int .u64 p2) from rfl)
        have k2 := (B0'.out.cell 2).trans (show (rv a2 m2 l2 p2 q2 r2 s2)[2]? = some (.int .u64 q2) from rfl)
        have k3 := (B0'.out.cell 3).trans (show (rv a2 m2 l2 p2 q2 r2 s2)[3]? = some (.int .u64 r2) from rfl)
        have k4 := (B0'.out.cell 4).trans (show (rv a2 m2 l2 p2 q2 r2 s2)[4]? = some (.int .u64 s2) from rfl)
        have j0 := (B1'.out.cell 0).trans (show (rv none 0 0 0 0 0 0)[0]? = some (.slice none 0 0) from rfl)
        have j1 := (B1'.out.cell 1).trans (show (rv none 0 0 0 0 0 0)[1]? = some (.int .u64 0) from rfl)
        have j2 := (B1'.out.cell 2).trans (show (rv none 0 0 0 0 0 0)[2]? = some (.int .u64 0) from rfl)
        have j3 := (B1'.out.cell 3).trans (show (rv none 0 0 0 0 0 0)[3]? = some (.int .u64 0) from rfl)
        have j4 := (B1'.out.cell 4).trans (show (rv none 0 0 0 0 0 0)[4]? = some (.int .u64 0) from rfl)
        have f0 := B1'.out.frozen 0
        have f1 := B1'.out.frozen 1
        have f2 := B1'.out.frozen 2
        have f3 := B1'.out.frozen 3
        have f4 := B1'.out.frozen 4
        have lt1 := B1'.out.lt
        have lt0 := B0'.out.lt
        have hlen := HLEN.out
        clear HO NEWS HW XE BE0 BE1 B0' x2 hext hrow HLEN
        go_wp2_with fail
        refine (OWN2.out _ Ext.q).mono ?_; rintro e v6 ⟨a6, m6, l6, p6, q6, r6, s6, rfl, x6, n6⟩; obtain ⟨c6, f6⟩ := x6.rules; have z6 := x6.size; have lq := fun o => c6 (w.heap.size) o (by first | (simp; done) | (simp; omega) | omega); have mq := fun o => f6 (w.heap.size) o (by first | (simp; done) | (simp; omega) | omega); have k6_0_0 := lq 0; have q6_0_0 := mq 0; have k6_0_1 := lq 1; have q6_0_1 := mq 1; have k6_0_2 := lq 2; have q6_0_2 := mq 2; have k6_0_3 := lq 3; have q6_0_3 := mq 3; have k6_0_4 := lq 4; have q6_0_4 := mq 4; clear lq mq; have lq := fun o => c6 (w.heap.size + 1) o (by first | (simp; done) | (simp; omega) | omega); have mq := fun o => f6 (w.heap.size + 1) o (by first | (simp; done) | (simp; omega) | omega); have k6_1_0 := lq 0; have q6_1_0 := mq 0; have k6_1_1 := lq 1; have q6_1_1 := mq 1; have k6_1_2 := lq 2; have q6_1_2 := mq 2; have k6_1_3 := lq 3; have q6_1_3 := mq 3; have k6_1_4 := lq 4; have q6_1_4 := mq 4; clear lq mq; have z6_0 : w.heap.size < v6.heap.size := (by (try simp at z6); omega); have z6_1 : w.heap.size + 1 < v6.heap.size := (by (try simp at z6); omega); (try simp at z6); clear c6 f6; simp [go_sem, *] at k6_0_0 q6_0_0 k6_0_1 q6_0_1 k6_0_2 q6_0_2 k6_0_3 q6_0_3 k6_0_4 q6_0_4 k6_1_0 q6_1_0 k6_1_1 q6_1_1 k6_1_2 q6_1_2 k6_1_3 q6_1_3 k6_1_4 q6_1_4
        go_wp2
        rw [Exit.noGoto_ret]
        change bodyPost _ _ _ _ _ _
        have nf := n6.out.set5 (b := w.heap.size + 1) (by omega) (.slice a6 m6 l6) (.int .u64 p6) (.int .u64 q6) (.int .u64 r6) (.int .u64 s6)
        have NF := Lib.hid (nf.base (base' := w.heap.size) (by have := X9.size; omega))
        have xf : Ext w (((((v6.setCell ⟨w.heap.size + 1, 0, none⟩ (.slice a6 m6 l6)).setCell ⟨w.heap.size + 1, 1, none⟩ (.int .u64 p6)).setCell ⟨w.heap.size + 1, 2, none⟩ (.int .u64 q6)).setCell ⟨w.heap.size + 1, 3, none⟩ (.int .u64 r6)).setCell ⟨w.heap.size + 1, 4, none⟩ (.int .u64 s6)) := own_ext5 (X9.tr x6) (by omega) _ _ _ _ _
        have XF := Lib.hid xf
        have RO := Lib.hid (own_base (base' := w.heap.size) (own_row5 (b := w.heap.size + 1) (own_old HO2.out x6) (by omega) (.slice a6 m6 l6) (.int .u64 p6) (.int .u64 q6) (.int .u64 r6) (.int .u64 s6)) (by omega))
        have MT := Lib.hid (MaskTo.of RO.out NF.out NX.out)
        clear nf xf HO2 RO NF NX
        simp [bodyPost, results, Tryz.results41, go_sem, *]
        exact ⟨_, _, ⟨rfl, rfl⟩, XF.out, MT.out⟩
      · have hkn2 : ((k : Int) + 1 == (n : Int)) = false := by simp; omega
        have HO2 := Lib.hid (show w1.ownsRow V 3 1 (.slice (some ⟨gb, 0, none⟩) (k + 1) cp) (k + 1) ((xs ++ [1]).map (Value.int .i64)) by rw [List.map_append]; exact HO.out)
        clear HO NEWS HW XE BE0 BE1 x2 hext hrow
        go_wp2_with fail
        go_roundw
        case rel => exact ⟨k + 1, xs ++ [1], G2, a2, m2, l2, p2, q2, r2, s2, _, rfl, by omega, NX.out, by simp; exact HLEN.out, HO2.out, B0'.out, B1'.out, HR2.out, FG2.out, hVz, X9⟩
        case measure => simp [lenOf]; omega
    · have hq' : X < q := by omega
      have NEWS := Lib.hid (show ∀ j u, [Value.int .i64 0][j]? = some u → (World.alloc (((((v2.setCell ⟨w.heap.size, 0, none⟩ (.slice a2 m2 l2)).setCell ⟨w.heap.size, 1, none⟩ (.int .u64 p2)).setCell ⟨w.heap.size, 2, none⟩ (.int .u64 q2)).setCell ⟨w.heap.size, 3, none⟩ (.int .u64 r2)).setCell ⟨w.heap.size, 4, none⟩ (.int .u64 s2)) (.cells #[.int .i64 0] 3)).cell? ((⟨v2.heap.size, 0, none⟩ : Addr).add j) = some u by rw [← hWs]; exact newsC_1 _ _ _)
      have HW := Lib.hid (show (World.alloc (((((v2.setCell ⟨w.heap.size, 0, none⟩ (.slice a2 m2 l2)).setCell ⟨w.heap.size, 1, none⟩ (.int .u64 p2)).setCell ⟨w.heap.size, 2, none⟩ (.int .u64 q2)).setCell ⟨w.heap.size, 3, none⟩ (.int .u64 r2)).setCell ⟨w.heap.size, 4, none⟩ (.int .u64 s2)) (.cells #[.int .i64 0] 3)).ownsRow V 3 1 (.slice al k cl) k (xs.map (Value.int .i64)) from World.ownsRow.alloc (own_row5 (own_old HOWN.out x2) (by omega) _ _ _ _ _) _)
      have XE : Ext w (World.alloc (((((v2.setCell ⟨w.heap.size, 0, none⟩ (.slice a2 m2 l2)).setCell ⟨w.heap.size, 1, none⟩ (.int .u64 p2)).setCell ⟨w.heap.size, 2, none⟩ (.int .u64 q2)).setCell ⟨w.heap.size, 3, none⟩ (.int .u64 r2)).setCell ⟨w.heap.size, 4, none⟩ (.int .u64 s2)) (.cells #[.int .i64 0] 3)) := Ext.alloc (own_ext5 (hext.tr x2) (Nat.le_refl _) _ _ _ _ _) _
      have BE0 := Lib.hid (BX.out.alloc (.cells #[.int .i64 0] 3))
      have BE1 := Lib.hid (BY.out.alloc (.cells #[.int .i64 0] 3))
      have hrow : ∀ r, (Value.slice al k cl).ownBlock = some r → V ≤ r := fun r hr => (HOWN.out.lt r hr).1
      clear hWs HOWN BX BY
      go_wp2_with (at_builtin; refine (show Hid _ from ?_).out)
      refine Lib.hid ?_
      refine wpList_append_own _ rfl _ _ 23 rfl V 3 i0 (.int .i64 0) 1 8 Tryz.underlying23 hi0 hz0 hz1 hz2 rfl (by decide) (.slice al k cl) k (xs.map (Value.int .i64)) rfl HW.out ⟨v2.heap.size, 0, none⟩ 1 1 [.int .i64 0] rfl rfl NEWS.out (oneC_1 _ _) hn2 hn3 (by simp; omega) ?_
      intro v' w1 hown1 hgrow _
      have X9 : Ext w w1 := Ext.grown XE hgrow (fun r hr => by have := hrow r hr; omega)
      have B0' := Lib.hid (BE0.out.grown hgrow (fun e => by have := hrow _ e.symm; omega))
      have B1' := Lib.hid (BE1.out.grown hgrow (fun e => by have := hrow _ e.symm; omega))
      have hVz : V ≤ w1.heap.size := by have := hgrow.size; simp at this; omega
      have HO := Lib.hid hown1
      obtain ⟨gb, cp, rfl, hgb, -⟩ := own_formP hown1
      clear hgrow hown1
      have NX := Lib.hid (show masks q (k + 1) [] g = (xs ++ [0], G2) by rw [masks_app, HG.out]; simp only [masks]; rw [HG2.out, HX.out, if_neg (by omega)])
      by_cases hkn : k + 1 = n
      · have hkn1 : ((k : Int) + 1 == (n : Int)) = true := by simp; omega
        subst hkn
        have HO2 := Lib.hid (show w1.ownsRow V 3 1 (.slice (some ⟨gb, 0, none⟩) (k + 1) cp) (k + 1) ((xs ++ [0]).map (Value.int .i64)) by rw [List.map_append]; exact HO.out)
        have H2 := Lib.hid (HR2.out)
        have OWN2 := Lib.hid (fun (W : World) (x : Ext w W) => OWN.out _ G2 W H2.out FG2.out x)
        have k0 := (B0'.out.cell 0).trans (show (rv a2 m2 l2 p2 q2 r2 s2)[0]? = some (.slice a2 m2 l2) from rfl)
        have k1 := (B0'.out.cell 1).trans (show (rv a2 m2 l2 p2 q2 r2 s2)[1]? = some (.int .u64 p2) from rfl)
        have k2 := (B0'.out.cell 2).trans (show (rv a2 m2 l2 p2 q2 r2 s2)[2]? = some (.int .u64 q2) from rfl)
        have k3 := (B0'.out.cell 3).trans (show (rv a2 m2 l2 p2 q2 r2 s2)[3]? = some (.int .u64 r2) from rfl)
        have k4 := (B0'.out.cell 4).trans (show (rv a2 m2 l2 p2 q2 r2 s2)[4]? = some (.int .u64 s2) from rfl)
        have j0 := (B1'.out.cell 0).trans (show (rv none 0 0 0 0 0 0)[0]? = some (.slice none 0 0) from rfl)
        have j1 := (B1'.out.cell 1).trans (show (rv none 0 0 0 0 0 0)[1]? = some (.int .u64 0) from rfl)
        have j2 := (B1'.out.cell 2).trans (show (rv none 0 0 0 0 0 0)[2]? = some (.int .u64 0) from rfl)
        have j3 := (B1'.out.cell 3).trans (show (rv none 0 0 0 0 0 0)[3]? = some (.int .u64 0) from rfl)
        have j4 := (B1'.out.cell 4).trans (show (rv none 0 0 0 0 0 0)[4]? = some (.int .u64 0) from rfl)
        have f0 := B1'.out.frozen 0
        have f1 := B1'.out.frozen 1
        have f2 := B1'.out.frozen 2
        have f3 := B1'.out.frozen 3
        have f4 := B1'.out.frozen 4
        have lt1 := B1'.out.lt
        have lt0 := B0'.out.lt
        have hlen := HLEN.out
        clear HO NEWS HW XE BE0 BE1 B0' x2 hext hrow HLEN
        go_wp2_with fail
        refine (OWN2.out _ Ext.q).mono ?_; rintro e v6 ⟨a6, m6, l6, p6, q6, r6, s6, rfl, x6, n6⟩; obtain ⟨c6, f6⟩ := x6.rules; have z6 := x6.size; have lq := fun o => c6 (w.heap.size) o (by first | (simp; done) | (simp; omega) | omega); have mq := fun o => f6 (w.heap.size) o (by first | (simp; done) | (simp; omega) | omega); have k6_0_0 := lq 0; have q6_0_0 := mq 0; have k6_0_1 := lq 1; have q6_0_1 := mq 1; have k6_0_2 := lq 2; have q6_0_2 := mq 2; have k6_0_3 := lq 3; have q6_0_3 := mq 3; have k6_0_4 := lq 4; have q6_0_4 := mq 4; clear lq mq; have lq := fun o => c6 (w.heap.size + 1) o (by first | (simp; done) | (simp; omega) | omega); have mq := fun o => f6 (w.heap.size + 1) o (by first | (simp; done) | (simp; omega) | omega); have k6_1_0 := lq 0; have q6_1_0 := mq 0; have k6_1_1 := lq 1; have q6_1_1 := mq 1; have k6_1_2 := lq 2; have q6_1_2 := mq 2; have k6_1_3 := lq 3; have q6_1_3 := mq 3; have k6_1_4 := lq 4; have q6_1_4 := mq 4; clear lq mq; have z6_0 : w.heap.size < v6.heap.size := (by (try simp at z6); omega); have z6_1 : w.heap.size + 1 < v6.heap.size := (by (try simp at z6); omega); (try simp at z6); clear c6 f6; simp [go_sem, *] at k6_0_0 q6_0_0 k6_0_1 q6_0_1 k6_0_2 q6_0_2 k6_0_3 q6_0_3 k6_0_4 q6_0_4 k6_1_0 q6_1_0 k6_1_1 q6_1_1 k6_1_2 q6_1_2 k6_1_3 q6_1_3 k6_1_4 q6_1_4
        go_wp2
        rw [Exit.noGoto_ret]
        change bodyPost _ _ _ _ _ _
        have nf := n6.out.set5 (b := w.heap.size + 1) (by omega) (.slice a6 m6 l6) (.int .u64 p6) (.int .u64 q6) (.int .u64 r6) (.int .u64 s6)
        have NF := Lib.hid (nf.base (base' := w.heap.size) (by have := X9.size; omega))
        have xf : Ext w (((((v6.setCell ⟨w.heap.size + 1, 0, none⟩ (.slice a6 m6 l6)).setCell ⟨w.heap.size + 1, 1, none⟩ (.int .u64 p6)).setCell ⟨w.heap.size + 1, 2, none⟩ (.int .u64 q6)).setCell ⟨w.heap.size + 1, 3, none⟩ (.int .u64 r6)).setCell ⟨w.heap.size + 1, 4, none⟩ (.int .u64 s6)) := own_ext5 (X9.tr x6) (by omega) _ _ _ _ _
        have XF := Lib.hid xf
        have RO := Lib.hid (own_base (base' := w.heap.size) (own_row5 (b := w.heap.size + 1) (own_old HO2.out x6) (by omega) (.slice a6 m6 l6) (.int .u64 p6) (.int .u64 q6) (.int .u64 r6) (.int .u64 s6)) (by omega))
        have MT := Lib.hid (MaskTo.of RO.out NF.out NX.out)
        clear nf xf HO2 RO NF NX
        simp [bodyPost, results, Tryz.results41, go_sem, *]
        exact ⟨_, _, ⟨rfl, rfl⟩, XF.out, MT.out⟩
      · have hkn2 : ((k : Int) + 1 == (n : Int)) = false := by simp; omega
        have HO2 := Lib.hid (show w1.ownsRow V 3 1 (.slice (some ⟨gb, 0, none⟩) (k + 1) cp) (k + 1) ((xs ++ [0]).map (Value.int .i64)) by rw [List.map_append]; exact HO.out)
        clear HO NEWS HW XE BE0 BE1 x2 hext hrow
        go_wp2_with fail
        go_roundw
        case rel => exact ⟨k + 1, xs ++ [0], G2, a2, m2, l2, p2, q2, r2, s2, _, rfl, by omega, NX.out, by simp; exact HLEN.out, HO2.out, B0'.out, B1'.out, HR2.out, FG2.out, hVz, X9⟩
        case measure => simp [lenOf]; omega
end Go.Proofs.YtkegefnpmijfiaaGreat
