/- SeedBounds: the walk. -/
import Derived.Test.YtapmldoehbeedaaGreatQDs
import Derived.Test.YtapmldoehbeedaaGreatQSpread
import Derived.Test.YtapmldoehbeedaaGreatQRHalf
import Derived.Test.YtapmldoehbeedaaGreatQRef2
import Derived.BigRegion
import Derived.Deep.DeepCutAuto
namespace Go.Proofs.YtapmldoehbeedaaGreat
open Go.RowKit
attribute [local go_sem ↓] Go.wp_at_zero Go.wp_at_succ
theorem ask_blk {w : World} {b : Nat} {t : TypeId} {v0 v1 v2 v3 v4 v5 v6 v7 v8 v9 v10 : Value} (h : Blk w b t #[v0, v1, v2, v3, v4, v5, v6, v7, v8, v9, v10]) :
    w.cell? ⟨b, 0, none⟩ = some v0 ∧ w.cell? ⟨b, 1, none⟩ = some v1 ∧ w.cell? ⟨b, 2, none⟩ = some v2 ∧ w.cell? ⟨b, 3, none⟩ = some v3 ∧ w.cell? ⟨b, 4, none⟩ = some v4 ∧ w.cell? ⟨b, 5, none⟩ = some v5 ∧ w.cell? ⟨b, 6, none⟩ = some v6 ∧ w.cell? ⟨b, 7, none⟩ = some v7 ∧ w.cell? ⟨b, 8, none⟩ = some v8 ∧ w.cell? ⟨b, 9, none⟩ = some v9 ∧ w.cell? ⟨b, 10, none⟩ = some v10 :=
  ⟨h.cell 0, h.cell 1, h.cell 2, h.cell 3, h.cell 4, h.cell 5, h.cell 6, h.cell 7, h.cell 8, h.cell 9, h.cell 10⟩
theorem blk_set5 {w : World} {b : Nat} {t : TypeId} (h : Blk w b t (rv none 0 0 0 0 0 0)) (v0 v1 v2 v3 v4 : Value) :
    Blk (((((w.setCell ⟨b, 0, none⟩ v0).setCell ⟨b, 1, none⟩ v1).setCell ⟨b, 2, none⟩ v2).setCell ⟨b, 3, none⟩ v3).setCell ⟨b, 4, none⟩ v4) b t #[v0, v1, v2, v3, v4] :=
  ((((h.set_ 0 v0).set_ 1 v1).set_ 2 v2).set_ 3 v3).set_ 4 v4
section
variable {n : Nat} {g : Gen} {v : Value} {w : World}
theorem shuffle_all (h : RandAt w v g) (hf : g.Fine) (n1 : 1 ≤ n) (n2 : n ≤ 65536) :
    Calls Tryz.prog 35 #[v, .int .i64 n] w fun e w' => ∃ E a m c p q r s, e = .returned (.tuple #[.slice (some ⟨E, 0, none⟩) n n, .agg #[.slice a m c, .int .u64 p, .int .u64 q, .int .u64 r, .int .u64 s], .int .i64 0]) ∧ Ext w w' ∧ Hid (Blk w' E 3 (ints (shufAt n g (n - 1)))) ∧ Hid (w.heap.size ≤ E) ∧ Hid (RandNew w.heap.size w' (.agg #[.slice a m c, .int .u64 p, .int .u64 q, .int .u64 r, .int .u64 s]) (g.turn n (n - 1))) :=
  (shuffle_new h hf n1 n2 (fun j h1 h2 => few_of (by omega) (by omega))).mono (by
    rintro e w' ⟨E, v', rfl, x, b, hE, r2⟩
    obtain ⟨a, m, c, p, q, r, s, rfl⟩ := r2.at.agg
    exact ⟨E, a, m, c, p, q, r, s, rfl, x, Lib.hid b, Lib.hid hE, Lib.hid r2⟩)
theorem mask_all {q : Int} (h : RandAt w v g) (hf : g.Fine) (n1 : 1 ≤ n) (n2 : n ≤ 65536) (q0 : 0 ≤ q) (q1 : q ≤ 99) :
    Calls Tryz.prog 41 #[v, .int .i64 n, .int .i64 q] w fun e w' => ∃ oa oc a m c p t r s, e = .returned (.tuple #[.slice oa n oc, .agg #[.slice a m c, .int .u64 p, .int .u64 t, .int .u64 r, .int .u64 s], .int .i64 0]) ∧ Ext w w' ∧ Hid (MaskTo w.heap.size w' (.slice oa n oc) (.agg #[.slice a m c, .int .u64 p, .int .u64 t, .int .u64 r, .int .u64 s]) q n g) :=
  (mask_new h hf n1 n2 q0 q1).mono (by
    rintro e w' ⟨o, v', rfl, x, mt⟩
    obtain ⟨a, m, c, p, u, r, s, rfl⟩ := mt.rand.at.agg
    obtain ⟨oa, oc, rfl⟩ := own_sl mt.own
    exact ⟨oa, oc, a, m, c, p, u, r, s, rfl, x, Lib.hid mt⟩)
end
set_option maxHeartbeats 100000000 in
set_option maxRecDepth 100000 in
theorem sbounds_walk (b o len cap : Nat) (w : World) (_hl : len ≤ 9223372036854775807) (hT : AsksS w b o len) :
    Calls Tryz.prog 5 #[.slice (some ⟨b, o, none⟩) len cap] w fun e w' => e = .returned (.bool true) ∧ Ext w w' := by
  have HT := Lib.hid hT
  clear hT
  go_enter Tryz.func5, Tryz.ntmps5
  go_wp2_with fail
  go_loopw [3] (fun i wr => ∃ k : Nat, k ≤ len ∧ i = .int .i64 k ∧ Ext w wr) (fun i _ => len - (intOf i).toNat)
  case atStart => exact ⟨0, Nat.zero_le _, rfl, Ext.refl _⟩
  case round =>
    obtain ⟨k, hk, rfl, hext⟩ := hrel
    obtain ⟨wo, rfl⟩ : ∃ wo : World, wo = wr := ⟨_, rfl⟩
    by_cases hlt : k < len ∧ k < 6
    · obtain ⟨h1, h2⟩ := hlt
      obtain ⟨g, a0, l0, sv, ss, In, Out, N, P, F, t0, hIn, hOut, hN, hP, hF, hsc, -⟩ := HT.out k h1
      obtain ⟨c0, c1, c2, c3, c4, c5, c6, c7, c8, c9, c10, rr, rr5⟩ := t0.ext hext
      have hR : RandAt wo (.agg #[.slice a0 g.script.length l0, .int .u64 (iv g.st.a), .int .u64 (iv g.st.b), .int .u64 (iv g.st.c), .int .u64 (iv g.st.d)]) g := ⟨a0, l0, rfl, rr⟩
      obtain ⟨_, _, hcs, hm9⟩ := rr.form'
      clear hcs rr t0
      have HS := Lib.hid rr5
      obtain ⟨sb, sc, rfl, -⟩ := rr5.form'
      clear rr5
      obtain ⟨m0, hm0⟩ : ∃ m0, g.script.length = m0 := ⟨_, rfl⟩
      rw [hm0] at hR c0 hm9
      generalize iv g.st.a = p0 at *
      generalize iv g.st.b = q0 at *
      generalize iv g.st.c = r0 at *
      generalize iv g.st.d = s0 at *
      have HR := Lib.hid hR
      have HSC := Lib.hid hsc
      have HV := Lib.hid (fun u (x : Ext wo u) => heavy25_any (HS.out.ext x) a0 m0 l0 p0 q0 r0 s0 In Out N P F hm9)
      have MAY := Lib.hid (fun u (x : Ext wo u) => may_rand (hR.ext x))
      have SH6 := Lib.hid (fun u (x : Ext wo u) => may6_any (HS.out.ext x))
      have HIn := Lib.hid hIn
      have HOut := Lib.hid hOut
      have HN := Lib.hid hN
      have BP := Lib.hid (Blk.new wo 64 #[.slice a0 m0 l0, .int .u64 p0, .int .u64 q0, .int .u64 r0, .int .u64 s0, .slice sb ss.length sc, .int .i64 In, .int .i64 Out, .int .i64 N, .int .i64 P, .int .i64 F])
      clear hR hsc hm0 hIn hOut hN hP hF
      go_upto_region 5 with fail
      go_cut [69] (fun s69 wx => Ext wo wx ∧ (s69 = .bool true ∨ (s69 = .bool false ∧ goodG g = true ∧ shp ss = true ∧ fanB In = true ∧ fanB Out = true ∧ fanB N = true)) ∧ Blk wx wo.heap.size 64 #[.slice a0 m0 l0, .int .u64 p0, .int .u64 q0, .int .u64 r0, .int .u64 s0, .slice sb ss.length sc, .int .i64 In, .int .i64 Out, .int .i64 N, .int .i64 P, .int .i64 F])
      case first => as_aux_lemma =>
        have F1 := Lib.hid (fun u => fan25_any In u)
        have F2 := Lib.hid (fun u => fan25_any Out u)
        have F3 := Lib.hid (fun u => fan25_any N u)
        go_wp2_with fail; refine (HV.out _ (by repeat (first | (with_reducible first | exact Ext.refl _ | apply Ext.drew | apply Ext.drewN | apply Ext.alloc) | ((with_reducible refine Ext.setCell ?_ ?_ _); rotate_left; focus (first | (simp; done) | (simp; omega) | omega)) | (with_reducible first | refine Ext.tr ?_ x1 | refine Ext.tr ?_ x2 | refine Ext.tr ?_ x3 | refine Ext.tr ?_ x4 | refine Ext.tr ?_ x5 | refine Ext.tr ?_ x6 | refine Ext.tr ?_ x7 | refine Ext.tr ?_ x8 | refine Ext.tr ?_ xb | refine Ext.tr ?_ xc | refine Ext.tr ?_ hx | refine Ext.tr ?_ hext | assumption)))).mono ?_; rintro e v1 ⟨⟨bh, rfl⟩, x1⟩; obtain ⟨c1, f1⟩ := x1.rules; have z1 := x1.size; have lq := fun o => c1 (wo.heap.size) o (by first | (simp; done) | (simp; omega) | omega); have mq := fun o => f1 (wo.heap.size) o (by first | (simp; done) | (simp; omega) | omega); have k1_wo_heap_size_0 := lq 0; have q1_wo_heap_size_0 := mq 0; have k1_wo_heap_size_1 := lq 1; have q1_wo_heap_size_1 := mq 1; have k1_wo_heap_size_2 := lq 2; have q1_wo_heap_size_2 := mq 2; have k1_wo_heap_size_3 := lq 3; have q1_wo_heap_size_3 := mq 3; have k1_wo_heap_size_4 := lq 4; have q1_wo_heap_size_4 := mq 4; have k1_wo_heap_size_5 := lq 5; have q1_wo_heap_size_5 := mq 5; have k1_wo_heap_size_6 := lq 6; have q1_wo_heap_size_6 := mq 6; have k1_wo_heap_size_7 := lq 7; have q1_wo_heap_size_7 := mq 7; have k1_wo_heap_size_8 := lq 8; have q1_wo_heap_size_8 := mq 8; have k1_wo_heap_size_9 := lq 9; have q1_wo_heap_size_9 := mq 9; have k1_wo_heap_size_10 := lq 10; have q1_wo_heap_size_10 := mq 10; clear lq mq; have z1_wo_heap_size : wo.heap.size < v1.heap.size := (by (try simp at z1); omega); (try simp at z1); clear c1 f1; simp [go_sem, *] at k1_wo_heap_size_0 q1_wo_heap_size_0 k1_wo_heap_size_1 q1_wo_heap_size_1 k1_wo_heap_size_2 q1_wo_heap_size_2 k1_wo_heap_size_3 q1_wo_heap_size_3 k1_wo_heap_size_4 q1_wo_heap_size_4 k1_wo_heap_size_5 q1_wo_heap_size_5 k1_wo_heap_size_6 q1_wo_heap_size_6 k1_wo_heap_size_7 q1_wo_heap_size_7 k1_wo_heap_size_8 q1_wo_heap_size_8 k1_wo_heap_size_9 q1_wo_heap_size_9 k1_wo_heap_size_10 q1_wo_heap_size_10
        have B1 := Lib.hid (BP.out.ext x1)
        dsimp only
        clear HV BP
        cases bh
        · cases e1 : goodG g
          · rw [e1] at MAY
            clear e1
            go_wp2_with fail; refine (MAY.out _ (by repeat (first | (with_reducible first | exact Ext.refl _ | apply Ext.drew | apply Ext.drewN | apply Ext.alloc) | ((with_reducible refine Ext.setCell ?_ ?_ _); rotate_left; focus (first | (simp; done) | (simp; omega) | omega)) | (with_reducible first | refine Ext.tr ?_ x1 | refine Ext.tr ?_ x2 | refine Ext.tr ?_ x3 | refine Ext.tr ?_ x4 | refine Ext.tr ?_ x5 | refine Ext.tr ?_ x6 | refine Ext.tr ?_ x7 | refine Ext.tr ?_ x8 | refine Ext.tr ?_ xb | refine Ext.tr ?_ xc | refine Ext.tr ?_ hx | refine Ext.tr ?_ hext | assumption)))).mono ?_; rintro e v2 ⟨rfl, x2⟩; obtain ⟨c2, f2⟩ := x2.rules; have z2 := x2.size; have lq := fun o => c2 (wo.heap.size) o (by first | (simp; done) | (simp; omega) | omega); have mq := fun o => f2 (wo.heap.size) o (by first | (simp; done) | (simp; omega) | omega); have k2_wo_heap_size_0 := lq 0; have q2_wo_heap_size_0 := mq 0; have k2_wo_heap_size_1 := lq 1; have q2_wo_heap_size_1 := mq 1; have k2_wo_heap_size_2 := lq 2; have q2_wo_heap_size_2 := mq 2; have k2_wo_heap_size_3 := lq 3; have q2_wo_heap_size_3 := mq 3; have k2_wo_heap_size_4 := lq 4; have q2_wo_heap_size_4 := mq 4; have k2_wo_heap_size_5 := lq 5; have q2_wo_heap_size_5 := mq 5; have k2_wo_heap_size_6 := lq 6; have q2_wo_heap_size_6 := mq 6; have k2_wo_heap_size_7 := lq 7; have q2_wo_heap_size_7 := mq 7; have k2_wo_heap_size_8 := lq 8; have q2_wo_heap_size_8 := mq 8; have k2_wo_heap_size_9 := lq 9; have q2_wo_heap_size_9 := mq 9; have k2_wo_heap_size_10 := lq 10; have q2_wo_heap_size_10 := mq 10; clear lq mq; have z2_wo_heap_size : wo.heap.size < v2.heap.size := (by (try simp at z2); omega); (try simp at z2); clear c2 f2; simp [go_sem, *] at k2_wo_heap_size_0 q2_wo_heap_size_0 k2_wo_heap_size_1 q2_wo_heap_size_1 k2_wo_heap_size_2 q2_wo_heap_size_2 k2_wo_heap_size_3 q2_wo_heap_size_3 k2_wo_heap_size_4 q2_wo_heap_size_4 k2_wo_heap_size_5 q2_wo_heap_size_5 k2_wo_heap_size_6 q2_wo_heap_size_6 k2_wo_heap_size_7 q2_wo_heap_size_7 k2_wo_heap_size_8 q2_wo_heap_size_8 k2_wo_heap_size_9 q2_wo_heap_size_9 k2_wo_heap_size_10 q2_wo_heap_size_10
            have B2 := Lib.hid (B1.out.ext x2)
            go_wp2_with fail
            go_meet
            exact ⟨(by repeat (first | (with_reducible first | exact Ext.refl _ | apply Ext.drew | apply Ext.drewN | apply Ext.alloc) | ((with_reducible refine Ext.setCell ?_ ?_ _); rotate_left; focus (first | (simp; done) | (simp; omega) | omega)) | (with_reducible first | refine Ext.tr ?_ x1 | refine Ext.tr ?_ x2 | refine Ext.tr ?_ x3 | refine Ext.tr ?_ x4 | refine Ext.tr ?_ x5 | refine Ext.tr ?_ x6 | refine Ext.tr ?_ x7 | refine Ext.tr ?_ x8 | refine Ext.tr ?_ xb | refine Ext.tr ?_ xc | refine Ext.tr ?_ hx | refine Ext.tr ?_ hext | assumption))), .inl rfl, B2.out⟩
          · rw [e1] at MAY
            go_wp2_with fail; refine (MAY.out _ (by repeat (first | (with_reducible first | exact Ext.refl _ | apply Ext.drew | apply Ext.drewN | apply Ext.alloc) | ((with_reducible refine Ext.setCell ?_ ?_ _); rotate_left; focus (first | (simp; done) | (simp; omega) | omega)) | (with_reducible first | refine Ext.tr ?_ x1 | refine Ext.tr ?_ x2 | refine Ext.tr ?_ x3 | refine Ext.tr ?_ x4 | refine Ext.tr ?_ x5 | refine Ext.tr ?_ x6 | refine Ext.tr ?_ x7 | refine Ext.tr ?_ x8 | refine Ext.tr ?_ xb | refine Ext.tr ?_ xc | refine Ext.tr ?_ hx | refine Ext.tr ?_ hext | assumption)))).mono ?_; rintro e v2 ⟨rfl, x2⟩; obtain ⟨c2, f2⟩ := x2.rules; have z2 := x2.size; have lq := fun o => c2 (wo.heap.size) o (by first | (simp; done) | (simp; omega) | omega); have mq := fun o => f2 (wo.heap.size) o (by first | (simp; done) | (simp; omega) | omega); have k2_wo_heap_size_0 := lq 0; have q2_wo_heap_size_0 := mq 0; have k2_wo_heap_size_1 := lq 1; have q2_wo_heap_size_1 := mq 1; have k2_wo_heap_size_2 := lq 2; have q2_wo_heap_size_2 := mq 2; have k2_wo_heap_size_3 := lq 3; have q2_wo_heap_size_3 := mq 3; have k2_wo_heap_size_4 := lq 4; have q2_wo_heap_size_4 := mq 4; have k2_wo_heap_size_5 := lq 5; have q2_wo_heap_size_5 := mq 5; have k2_wo_heap_size_6 := lq 6; have q2_wo_heap_size_6 := mq 6; have k2_wo_heap_size_7 := lq 7; have q2_wo_heap_size_7 := mq 7; have k2_wo_heap_size_8 := lq 8; have q2_wo_heap_size_8 := mq 8; have k2_wo_heap_size_9 := lq 9; have q2_wo_heap_size_9 := mq 9; have k2_wo_heap_size_10 := lq 10; have q2_wo_heap_size_10 := mq 10; clear lq mq; have z2_wo_heap_size : wo.heap.size < v2.heap.size := (by (try simp at z2); omega); (try simp at z2); clear c2 f2; simp [go_sem, *] at k2_wo_heap_size_0 q2_wo_heap_size_0 k2_wo_heap_size_1 q2_wo_heap_size_1 k2_wo_heap_size_2 q2_wo_heap_size_2 k2_wo_heap_size_3 q2_wo_heap_size_3 k2_wo_heap_size_4 q2_wo_heap_size_4 k2_wo_heap_size_5 q2_wo_heap_size_5 k2_wo_heap_size_6 q2_wo_heap_size_6 k2_wo_heap_size_7 q2_wo_heap_size_7 k2_wo_heap_size_8 q2_wo_heap_size_8 k2_wo_heap_size_9 q2_wo_heap_size_9 k2_wo_heap_size_10 q2_wo_heap_size_10
            have B2 := Lib.hid (B1.out.ext x2)
            clear B1 MAY
            cases e2 : shp ss
            · rw [e2] at SH6
              clear e1 e2
              go_wp2_with fail; refine (SH6.out _ (by repeat (first | (with_reducible first | exact Ext.refl _ | apply Ext.drew | apply Ext.drewN | apply Ext.alloc) | ((with_reducible refine Ext.setCell ?_ ?_ _); rotate_left; focus (first | (simp; done) | (simp; omega) | omega)) | (with_reducible first | refine Ext.tr ?_ x1 | refine Ext.tr ?_ x2 | refine Ext.tr ?_ x3 | refine Ext.tr ?_ x4 | refine Ext.tr ?_ x5 | refine Ext.tr ?_ x6 | refine Ext.tr ?_ x7 | refine Ext.tr ?_ x8 | refine Ext.tr ?_ xb | refine Ext.tr ?_ xc | refine Ext.tr ?_ hx | refine Ext.tr ?_ hext | assumption)))).mono ?_; rintro e w' ⟨rfl, rfl⟩
              go_wp2_with fail
              go_meet
              exact ⟨(by repeat (first | (with_reducible first | exact Ext.refl _ | apply Ext.drew | apply Ext.drewN | apply Ext.alloc) | ((with_reducible refine Ext.setCell ?_ ?_ _); rotate_left; focus (first | (simp; done) | (simp; omega) | omega)) | (with_reducible first | refine Ext.tr ?_ x1 | refine Ext.tr ?_ x2 | refine Ext.tr ?_ x3 | refine Ext.tr ?_ x4 | refine Ext.tr ?_ x5 | refine Ext.tr ?_ x6 | refine Ext.tr ?_ x7 | refine Ext.tr ?_ x8 | refine Ext.tr ?_ xb | refine Ext.tr ?_ xc | refine Ext.tr ?_ hx | refine Ext.tr ?_ hext | assumption))), .inl rfl, B2.out⟩
            · rw [e2] at SH6
              go_wp2_with fail; refine (SH6.out _ (by repeat (first | (with_reducible first | exact Ext.refl _ | apply Ext.drew | apply Ext.drewN | apply Ext.alloc) | ((with_reducible refine Ext.setCell ?_ ?_ _); rotate_left; focus (first | (simp; done) | (simp; omega) | omega)) | (with_reducible first | refine Ext.tr ?_ x1 | refine Ext.tr ?_ x2 | refine Ext.tr ?_ x3 | refine Ext.tr ?_ x4 | refine Ext.tr ?_ x5 | refine Ext.tr ?_ x6 | refine Ext.tr ?_ x7 | refine Ext.tr ?_ x8 | refine Ext.tr ?_ xb | refine Ext.tr ?_ xc | refine Ext.tr ?_ hx | refine Ext.tr ?_ hext | assumption)))).mono ?_; rintro e w' ⟨rfl, rfl⟩
              cases e3 : fanB In
              · rw [e3] at F1
                clear e1 e2 e3
                go_wp2_with fail; refine (F1.out _).mono ?_; rintro e w' ⟨rfl, rfl⟩
                go_wp2_with fail
                go_meet
                exact ⟨(by repeat (first | (with_reducible first | exact Ext.refl _ | apply Ext.drew | apply Ext.drewN | apply Ext.alloc) | ((with_reducible refine Ext.setCell ?_ ?_ _); rotate_left; focus (first | (simp; done) | (simp; omega) | omega)) | (with_reducible first | refine Ext.tr ?_ x1 | refine Ext.tr ?_ x2 | refine Ext.tr ?_ x3 | refine Ext.tr ?_ x4 | refine Ext.tr ?_ x5 | refine Ext.tr ?_ x6 | refine Ext.tr ?_ x7 | refine Ext.tr ?_ x8 | refine Ext.tr ?_ xb | refine Ext.tr ?_ xc | refine Ext.tr ?_ hx | refine Ext.tr ?_ hext | assumption))), .inl rfl, B2.out⟩
              · rw [e3] at F1
                go_wp2_with fail; refine (F1.out _).mono ?_; rintro e w' ⟨rfl, rfl⟩
                cases e4 : fanB Out
                · rw [e4] at F2
                  clear e1 e2 e3 e4
                  go_wp2_with fail; refine (F2.out _).mono ?_; rintro e w' ⟨rfl, rfl⟩
                  go_wp2_with fail
                  go_meet
                  exact ⟨(by repeat (first | (with_reducible first | exact Ext.refl _ | apply Ext.drew | apply Ext.drewN | apply Ext.alloc) | ((with_reducible refine Ext.setCell ?_ ?_ _); rotate_left; focus (first | (simp; done) | (simp; omega) | omega)) | (with_reducible first | refine Ext.tr ?_ x1 | refine Ext.tr ?_ x2 | refine Ext.tr ?_ x3 | refine Ext.tr ?_ x4 | refine Ext.tr ?_ x5 | refine Ext.tr ?_ x6 | refine Ext.tr ?_ x7 | refine Ext.tr ?_ x8 | refine Ext.tr ?_ xb | refine Ext.tr ?_ xc | refine Ext.tr ?_ hx | refine Ext.tr ?_ hext | assumption))), .inl rfl, B2.out⟩
                · rw [e4] at F2
                  go_wp2_with fail; refine (F2.out _).mono ?_; rintro e w' ⟨rfl, rfl⟩
                  cases e5 : fanB N
                  · rw [e5] at F3
                    clear e1 e2 e3 e4 e5
                    go_wp2_with fail; refine (F3.out _).mono ?_; rintro e w' ⟨rfl, rfl⟩
                    go_wp2_with fail
                    go_meet
                    exact ⟨(by repeat (first | (with_reducible first | exact Ext.refl _ | apply Ext.drew | apply Ext.drewN | apply Ext.alloc) | ((with_reducible refine Ext.setCell ?_ ?_ _); rotate_left; focus (first | (simp; done) | (simp; omega) | omega)) | (with_reducible first | refine Ext.tr ?_ x1 | refine Ext.tr ?_ x2 | refine Ext.tr ?_ x3 | refine Ext.tr ?_ x4 | refine Ext.tr ?_ x5 | refine Ext.tr ?_ x6 | refine Ext.tr ?_ x7 | refine Ext.tr ?_ x8 | refine Ext.tr ?_ xb | refine Ext.tr ?_ xc | refine Ext.tr ?_ hx | refine Ext.tr ?_ hext | assumption))), .inl rfl, B2.out⟩
                  · rw [e5] at F3
                    have EE := Lib.hid (And.intro e1 (And.intro e2 (And.intro e3 (And.intro e4 e5))))
                    clear e1 e2 e3 e4 e5
                    go_wp2_with fail; refine (F3.out _).mono ?_; rintro e w' ⟨rfl, rfl⟩
                    go_wp2_with fail
                    go_meet
                    exact ⟨(by repeat (first | (with_reducible first | exact Ext.refl _ | apply Ext.drew | apply Ext.drewN | apply Ext.alloc) | ((with_reducible refine Ext.setCell ?_ ?_ _); rotate_left; focus (first | (simp; done) | (simp; omega) | omega)) | (with_reducible first | refine Ext.tr ?_ x1 | refine Ext.tr ?_ x2 | refine Ext.tr ?_ x3 | refine Ext.tr ?_ x4 | refine Ext.tr ?_ x5 | refine Ext.tr ?_ x6 | refine Ext.tr ?_ x7 | refine Ext.tr ?_ x8 | refine Ext.tr ?_ xb | refine Ext.tr ?_ xc | refine Ext.tr ?_ hx | refine Ext.tr ?_ hext | assumption))), .inr ⟨rfl, EE.out⟩, B2.out⟩
        · go_wp2_with fail
          go_meet
          exact ⟨(by repeat (first | (with_reducible first | exact Ext.refl _ | apply Ext.drew | apply Ext.drewN | apply Ext.alloc) | ((with_reducible refine Ext.setCell ?_ ?_ _); rotate_left; focus (first | (simp; done) | (simp; omega) | omega)) | (with_reducible first | refine Ext.tr ?_ x1 | refine Ext.tr ?_ x2 | refine Ext.tr ?_ x3 | refine Ext.tr ?_ x4 | refine Ext.tr ?_ x5 | refine Ext.tr ?_ x6 | refine Ext.tr ?_ x7 | refine Ext.tr ?_ x8 | refine Ext.tr ?_ xb | refine Ext.tr ?_ xc | refine Ext.tr ?_ hx | refine Ext.tr ?_ hext | assumption))), .inl rfl, B1.out⟩
      case rest =>
        obtain ⟨x1, hs69, hB⟩ := hcut
        have B1 := Lib.hid hB
        obtain ⟨k0, k1, k2, k3, k4, k5, k6, k7, k8, k9, k10⟩ := ask_blk hB
        have zB := hB.lt
        clear hB HV MAY SH6 BP c0 c1 c2 c3 c4 c5 c6 c7 c8 c9 c10
        rcases hs69 with rfl | ⟨rfl, e1, e2, e3, e4, e5⟩
        · go_wp2_with fail
          go_roundw
          case rel => exact ⟨k + 1, by omega, by go_num, (by repeat (first | (with_reducible first | exact Ext.refl _ | apply Ext.drew | apply Ext.drewN | apply Ext.alloc) | ((with_reducible refine Ext.setCell ?_ ?_ _); rotate_left; focus (first | (simp; done) | (simp; omega) | omega)) | (with_reducible first | refine Ext.tr ?_ x1 | refine Ext.tr ?_ x2 | refine Ext.tr ?_ x3 | refine Ext.tr ?_ x4 | refine Ext.tr ?_ x5 | refine Ext.tr ?_ x6 | refine Ext.tr ?_ x7 | refine Ext.tr ?_ x8 | refine Ext.tr ?_ xb | refine Ext.tr ?_ xc | refine Ext.tr ?_ hx | refine Ext.tr ?_ hext | assumption)))⟩
          case measure => simp [intOf]; omega
        · have E5 := e5
          simp only [fanB, Bool.and_eq_true, decide_eq_true_eq] at E5
          obtain ⟨n, rfl⟩ : ∃ n : Nat, N = n := ⟨N.toNat, by omega⟩
          obtain ⟨n1, n2⟩ := E5
          obtain ⟨fF, hfF, hFF⟩ := F_some F
          have FINE : Hid g.Fine := Lib.hid ⟨e1, HSC.out⟩
          have EE := Lib.hid (And.intro e2 (And.intro e3 e4))
          have HFF := Lib.hid hFF
          have GF := Lib.hid hfF
          clear e1 e2 e3 e4 e5 HSC hFF hfF
          go_wp2_with fail
          refine (HFF.out _).mono ?_
          rintro e w' ⟨rfl, rfl⟩
          clear HFF
          have SH := Lib.hid (fun u (x : Ext wo u) => shuffle_all (n := n) (HR.out.ext x) FINE.out (by omega) (by omega))
          go_wp2_with fail; refine (SH.out _ (by repeat (first | (with_reducible first | exact Ext.refl _ | apply Ext.drew | apply Ext.drewN | apply Ext.alloc) | ((with_reducible refine Ext.setCell ?_ ?_ _); rotate_left; focus (first | (simp; done) | (simp; omega) | omega)) | (with_reducible first | refine Ext.tr ?_ x1 | refine Ext.tr ?_ x2 | refine Ext.tr ?_ x3 | refine Ext.tr ?_ x4 | refine Ext.tr ?_ x5 | refine Ext.tr ?_ x6 | refine Ext.tr ?_ x7 | refine Ext.tr ?_ x8 | refine Ext.tr ?_ xb | refine Ext.tr ?_ xc | refine Ext.tr ?_ hx | refine Ext.tr ?_ hext | assumption)))).mono ?_; rintro e v2 ⟨E2, a2, m2, d2, p2, q2, r2, s2, rfl, x2, bE2, hE2, rg2⟩; obtain ⟨c2, f2⟩ := x2.rules; have z2 := x2.size
          dsimp only
          have B2 := Lib.hid (B1.out.ext x2)
          have x12 : Ext wo v2 := x1.tr x2
          clear k0 k1 k2 k3 k4 k5 k6 k7 k8 k9 k10 B1 c2 f2 x2
          have CP := Lib.hid (fun u (x : Ext wo u) => copy_agg (HR.out.ext x) FINE.out)
          have SH2 : Hid (∀ (V : Value) (u u' : World), RandAt u V g → Ext u u' → Calls Tryz.prog 35 #[V, .int .i64 n] u' fun e w' => ∃ E a m c p q r s, e = .returned (.tuple #[.slice (some ⟨E, 0, none⟩) n n, .agg #[.slice a m c, .int .u64 p, .int .u64 q, .int .u64 r, .int .u64 s], .int .i64 0]) ∧ Ext u' w' ∧ Hid (Blk w' E 3 (ints (shufAt n g (n - 1)))) ∧ Hid (u'.heap.size ≤ E) ∧ Hid (RandNew u'.heap.size w' (.agg #[.slice a m c, .int .u64 p, .int .u64 q, .int .u64 r, .int .u64 s]) (g.turn n (n - 1)))) := Lib.hid fun V u u' hv hx => shuffle_all (n := n) (hv.ext hx) FINE.out (by omega) (by omega)
          go_upto_region 8 with fail
          have BB := Lib.hid (B2.out.alloc (.cells #[.slice a2 m2 d2, .int .u64 p2, .int .u64 q2, .int .u64 r2, .int .u64 s2] 62))
          have BS := Lib.hid (Blk.new v2 62 #[.slice a2 m2 d2, .int .u64 p2, .int .u64 q2, .int .u64 r2, .int .u64 s2])
          have RO := Lib.hid (bE2.out.ext (Ext.alloc (Ext.refl v2) (.cells #[.slice a2 m2 d2, .int .u64 p2, .int .u64 q2, .int .u64 r2, .int .u64 s2] 62)))
          have RG := Lib.hid (rg2.out.at.ext (Ext.alloc (Ext.refl v2) (.cells #[.slice a2 m2 d2, .int .u64 p2, .int .u64 q2, .int .u64 r2, .int .u64 s2] 62)))
          have xb : Ext wo (v2.alloc (.cells #[.slice a2 m2 d2, .int .u64 p2, .int .u64 q2, .int .u64 r2, .int .u64 s2] 62)) := Ext.alloc x12 _
          clear B2 bE2 hE2 rg2 x12 SH
          generalize v2.alloc (.cells #[.slice a2 m2 d2, .int .u64 p2, .int .u64 q2, .int .u64 r2, .int .u64 s2] 62) = vb at *
          generalize v2.heap.size = S at *
          have zS : S < vb.heap.size := BS.out.lt
          have zB : wo.heap.size < vb.heap.size := BB.out.lt
          obtain ⟨k0, k1, k2, k3, k4, k5, k6, k7, k8, k9, k10⟩ := ask_blk BB.out
          go_cut [9, 10, 11] (fun s9 s10 s11 wx => ∃ (E g2 : Nat) (a : Option Addr) (m c : Nat) (p q r s : Int), s9 = .slice (some ⟨E, 0, none⟩) n n ∧ s10 = .pointer (some ⟨g2, 0, none⟩) ∧ s11 = .int .i64 0 ∧ Ext vb wx ∧ Hid (Blk wx E 3 (ints (shufAt n g (n - 1)))) ∧ Hid (RandAt wx (.agg #[.slice a m c, .int .u64 p, .int .u64 q, .int .u64 r, .int .u64 s]) (g.turn n (n - 1))) ∧ wx.cell? ⟨g2, 0, none⟩ = some (.slice a m c) ∧ wx.cell? ⟨g2, 1, none⟩ = some (.int .u64 p) ∧ wx.cell? ⟨g2, 2, none⟩ = some (.int .u64 q) ∧ wx.cell? ⟨g2, 3, none⟩ = some (.int .u64 r) ∧ wx.cell? ⟨g2, 4, none⟩ = some (.int .u64 s))
          case first => as_aux_lemma =>
            have KP : Hid (∀ w' : World, Ext vb w' → w'.cell? ⟨wo.heap.size, 0, none⟩ = some (.slice a0 m0 l0) ∧ w'.cell? ⟨wo.heap.size, 1, none⟩ = some (.int .u64 p0) ∧ w'.cell? ⟨wo.heap.size, 2, none⟩ = some (.int .u64 q0) ∧ w'.cell? ⟨wo.heap.size, 3, none⟩ = some (.int .u64 r0) ∧ w'.cell? ⟨wo.heap.size, 4, none⟩ = some (.int .u64 s0) ∧ w'.cell? ⟨wo.heap.size, 8, none⟩ = some (.int .i64 n) ∧ wo.heap.size < w'.heap.size ∧ Ext vb w') := Lib.hid fun w' x => by
              have h := BB.out.ext x
              obtain ⟨h0, h1, h2, h3, h4, -, -, -, h8, -, -⟩ := ask_blk h
              exact ⟨h0, h1, h2, h3, h4, h8, h.lt, x⟩
            go_region_held3 (fun w' => w'.cell? ⟨wo.heap.size, 0, none⟩ = some (.slice a0 m0 l0) ∧ w'.cell? ⟨wo.heap.size, 1, none⟩ = some (.int .u64 p0) ∧ w'.cell? ⟨wo.heap.size, 2, none⟩ = some (.int .u64 q0) ∧ w'.cell? ⟨wo.heap.size, 3, none⟩ = some (.int .u64 r0) ∧ w'.cell? ⟨wo.heap.size, 4, none⟩ = some (.int .u64 s0) ∧ w'.cell? ⟨wo.heap.size, 8, none⟩ = some (.int .i64 n) ∧ wo.heap.size < w'.heap.size ∧ Ext vb w')
              (exact KP.out _ (by repeat (first | (with_reducible first | exact Ext.refl _ | apply Ext.drew | apply Ext.drewN | apply Ext.alloc) | ((with_reducible refine Ext.setCell ?_ ?_ _); rotate_left; focus (first | (simp; done) | (simp; omega) | omega)) | (with_reducible first | refine Ext.tr ?_ x1 | refine Ext.tr ?_ x2 | refine Ext.tr ?_ x3 | refine Ext.tr ?_ x4 | refine Ext.tr ?_ x5 | refine Ext.tr ?_ x6 | refine Ext.tr ?_ x7 | refine Ext.tr ?_ x8 | refine Ext.tr ?_ xb | refine Ext.tr ?_ xc | refine Ext.tr ?_ hx | refine Ext.tr ?_ hext | assumption))))
              (first
                | (go_at_call 36; (first | refine (CP.out _ (by repeat (first | (with_reducible first | exact Ext.refl _ | apply Ext.drew | apply Ext.drewN | apply Ext.alloc) | ((with_reducible refine Ext.setCell ?_ ?_ _); rotate_left; focus (first | (simp; done) | (simp; omega) | omega)) | (with_reducible first | refine Ext.tr ?_ x1 | refine Ext.tr ?_ x2 | refine Ext.tr ?_ x3 | refine Ext.tr ?_ x4 | refine Ext.tr ?_ x5 | refine Ext.tr ?_ x6 | refine Ext.tr ?_ x7 | refine Ext.tr ?_ x8 | refine Ext.tr ?_ xb | refine Ext.tr ?_ xc | refine Ext.tr ?_ hx | refine Ext.tr ?_ hext | assumption)))).mono ?_; rintro e v3 ⟨a3, m3, d3, p3, q3, r3, s3, rfl, x3, hr3⟩; obtain ⟨c3, f3⟩ := x3.rules; have z3 := x3.size; have lq := fun o => c3 (vb.heap.size) o (by first | (simp; done) | (simp; omega) | omega); have mq := fun o => f3 (vb.heap.size) o (by first | (simp; done) | (simp; omega) | omega); have k3_vb_heap_size_0 := lq 0; have q3_vb_heap_size_0 := mq 0; have k3_vb_heap_size_1 := lq 1; have q3_vb_heap_size_1 := mq 1; have k3_vb_heap_size_2 := lq 2; have q3_vb_heap_size_2 := mq 2; have k3_vb_heap_size_3 := lq 3; have q3_vb_heap_size_3 := mq 3; have k3_vb_heap_size_4 := lq 4; have q3_vb_heap_size_4 := mq 4; clear lq mq; have z3_vb_heap_size : vb.heap.size < v3.heap.size := (by (try simp at z3); omega); (try simp at z3); clear c3 f3; simp [go_sem, *] at k3_vb_heap_size_0 q3_vb_heap_size_0 k3_vb_heap_size_1 q3_vb_heap_size_1 k3_vb_heap_size_2 q3_vb_heap_size_2 k3_vb_heap_size_3 q3_vb_heap_size_3 k3_vb_heap_size_4 q3_vb_heap_size_4 | refine (CP.out _ (by repeat (first | (with_reducible first | exact Ext.refl _ | apply Ext.drew | apply Ext.drewN | apply Ext.alloc) | ((with_reducible refine Ext.setCell ?_ ?_ _); rotate_left; focus (first | (simp; done) | (simp; omega) | omega)) | (with_reducible first | refine Ext.tr ?_ x1 | refine Ext.tr ?_ x2 | refine Ext.tr ?_ x3 | refine Ext.tr ?_ x4 | refine Ext.tr ?_ x5 | refine Ext.tr ?_ x6 | refine Ext.tr ?_ x7 | refine Ext.tr ?_ x8 | refine Ext.tr ?_ xb | refine Ext.tr ?_ xc | refine Ext.tr ?_ hx | refine Ext.tr ?_ hext | assumption)))).mono ?_; rintro e v3 ⟨a3, m3, d3, p3, q3, r3, s3, rfl, x3, hr3⟩; obtain ⟨c3, f3⟩ := x3.rules; have z3 := x3.size); have hz30 : vb.heap.size ≤ v3.heap.size := (by have := x3.size; simp at this; omega); clear CP)
                | (go_at_call 35; (first | refine (SH2.out _ _ _ hr3.out.at (by repeat (first | (with_reducible first | exact Ext.refl _ | apply Ext.drew | apply Ext.drewN | apply Ext.alloc) | ((with_reducible refine Ext.setCell ?_ ?_ _); rotate_left; focus (first | (simp; done) | (simp; omega) | omega)) | (with_reducible first | refine Ext.tr ?_ x1 | refine Ext.tr ?_ x2 | refine Ext.tr ?_ x3 | refine Ext.tr ?_ x4 | refine Ext.tr ?_ x5 | refine Ext.tr ?_ x6 | refine Ext.tr ?_ x7 | refine Ext.tr ?_ x8 | refine Ext.tr ?_ xb | refine Ext.tr ?_ xc | refine Ext.tr ?_ hx | refine Ext.tr ?_ hext | assumption)))).mono ?_; rintro e v4 ⟨E4, a4, m4, d4, p4, q4, r4, s4, rfl, x4, bE4, hE4, rg4⟩; obtain ⟨c4, f4⟩ := x4.rules; have z4 := x4.size; have lq := fun o => c4 (v3.heap.size) o (by first | (simp; done) | (simp; omega) | omega); have mq := fun o => f4 (v3.heap.size) o (by first | (simp; done) | (simp; omega) | omega); have k4_v3_heap_size_0 := lq 0; have q4_v3_heap_size_0 := mq 0; have k4_v3_heap_size_1 := lq 1; have q4_v3_heap_size_1 := mq 1; have k4_v3_heap_size_2 := lq 2; have q4_v3_heap_size_2 := mq 2; have k4_v3_heap_size_3 := lq 3; have q4_v3_heap_size_3 := mq 3; have k4_v3_heap_size_4 := lq 4; have q4_v3_heap_size_4 := mq 4; clear lq mq; have z4_v3_heap_size : v3.heap.size < v4.heap.size := (by (try simp at z4); omega); (try simp at z4); clear c4 f4; simp [go_sem, *] at k4_v3_heap_size_0 q4_v3_heap_size_0 k4_v3_heap_size_1 q4_v3_heap_size_1 k4_v3_heap_size_2 q4_v3_heap_size_2 k4_v3_heap_size_3 q4_v3_heap_size_3 k4_v3_heap_size_4 q4_v3_heap_size_4 | refine (SH2.out _ _ _ hr3.out.at (by repeat (first | (with_reducible first | exact Ext.refl _ | apply Ext.drew | apply Ext.drewN | apply Ext.alloc) | ((with_reducible refine Ext.setCell ?_ ?_ _); rotate_left; focus (first | (simp; done) | (simp; omega) | omega)) | (with_reducible first | refine Ext.tr ?_ x1 | refine Ext.tr ?_ x2 | refine Ext.tr ?_ x3 | refine Ext.tr ?_ x4 | refine Ext.tr ?_ x5 | refine Ext.tr ?_ x6 | refine Ext.tr ?_ x7 | refine Ext.tr ?_ x8 | refine Ext.tr ?_ xb | refine Ext.tr ?_ xc | refine Ext.tr ?_ hx | refine Ext.tr ?_ hext | assumption)))).mono ?_; rintro e v4 ⟨E4, a4, m4, d4, p4, q4, r4, s4, rfl, x4, bE4, hE4, rg4⟩; obtain ⟨c4, f4⟩ := x4.rules; have z4 := x4.size; have lq := fun o => c4 (vb.heap.size) o (by first | (simp; done) | (simp; omega) | omega); have mq := fun o => f4 (vb.heap.size) o (by first | (simp; done) | (simp; omega) | omega); have k4_vb_heap_size_0 := lq 0; have q4_vb_heap_size_0 := mq 0; have k4_vb_heap_size_1 := lq 1; have q4_vb_heap_size_1 := mq 1; have k4_vb_heap_size_2 := lq 2; have q4_vb_heap_size_2 := mq 2; have k4_vb_heap_size_3 := lq 3; have q4_vb_heap_size_3 := mq 3; have k4_vb_heap_size_4 := lq 4; have q4_vb_heap_size_4 := mq 4; clear lq mq; have z4_vb_heap_size : vb.heap.size < v4.heap.size := (by (try simp at z4); omega); (try simp at z4); clear c4 f4; simp [go_sem, *] at k4_vb_heap_size_0 q4_vb_heap_size_0 k4_vb_heap_size_1 q4_vb_heap_size_1 k4_vb_heap_size_2 q4_vb_heap_size_2 k4_vb_heap_size_3 q4_vb_heap_size_3 k4_vb_heap_size_4 q4_vb_heap_size_4 | refine (SH2.out _ _ _ hr3.out.at (by repeat (first | (with_reducible first | exact Ext.refl _ | apply Ext.drew | apply Ext.drewN | apply Ext.alloc) | ((with_reducible refine Ext.setCell ?_ ?_ _); rotate_left; focus (first | (simp; done) | (simp; omega) | omega)) | (with_reducible first | refine Ext.tr ?_ x1 | refine Ext.tr ?_ x2 | refine Ext.tr ?_ x3 | refine Ext.tr ?_ x4 | refine Ext.tr ?_ x5 | refine Ext.tr ?_ x6 | refine Ext.tr ?_ x7 | refine Ext.tr ?_ x8 | refine Ext.tr ?_ xb | refine Ext.tr ?_ xc | refine Ext.tr ?_ hx | refine Ext.tr ?_ hext | assumption)))).mono ?_; rintro e v4 ⟨E4, a4, m4, d4, p4, q4, r4, s4, rfl, x4, bE4, hE4, rg4⟩; obtain ⟨c4, f4⟩ := x4.rules; have z4 := x4.size); clear SH2))
            · go_wp2_with fail
              go_meet
              have hE := hE4.out
              have hz3 := x3.size
              have hz4 := x4.size
              (try simp at hE)
              (try simp at hz3)
              (try simp at hz4)
              have BN := Blk.new v4 62 (rv a4 m4 d4 p4 q4 r4 s4)
              exact ⟨E4, v4.heap.size, a4, m4, d4, p4, q4, r4, s4, rfl, rfl, rfl, (by repeat (first | (with_reducible first | exact Ext.refl _ | apply Ext.drew | apply Ext.drewN | apply Ext.alloc) | ((with_reducible refine Ext.setCell ?_ ?_ _); rotate_left; focus (first | (simp; done) | (simp; omega) | omega)) | (with_reducible first | refine Ext.tr ?_ x1 | refine Ext.tr ?_ x2 | refine Ext.tr ?_ x3 | refine Ext.tr ?_ x4 | refine Ext.tr ?_ x5 | refine Ext.tr ?_ x6 | refine Ext.tr ?_ x7 | refine Ext.tr ?_ x8 | refine Ext.tr ?_ xb | refine Ext.tr ?_ xc | refine Ext.tr ?_ hx | refine Ext.tr ?_ hext | assumption))), Lib.hid (bE4.out.ext (Ext.alloc (Ext.refl _) _)), Lib.hid (rg4.out.at.ext (Ext.alloc (Ext.refl _) _)), BN.cell 0, BN.cell 1, BN.cell 2, BN.cell 3, BN.cell 4⟩
            · go_wp2_with fail
              go_meet
              have hE := hE4.out
              have hz3 := x3.size
              have hz4 := x4.size
              (try simp at hE)
              (try simp at hz3)
              (try simp at hz4)
              have BN := blk_set5 (show Blk v4 (v3.heap.size) 62 (rv none 0 0 0 0 0 0) from (Blk.new v3 _ _).ext x4) (.slice a4 m4 d4) (.int .u64 p4) (.int .u64 q4) (.int .u64 r4) (.int .u64 s4)
              exact ⟨E4, v3.heap.size, a4, m4, d4, p4, q4, r4, s4, rfl, rfl, rfl, own_ext5 (show Ext vb v4 from (by repeat (first | (with_reducible first | exact Ext.refl _ | apply Ext.drew | apply Ext.drewN | apply Ext.alloc) | ((with_reducible refine Ext.setCell ?_ ?_ _); rotate_left; focus (first | (simp; done) | (simp; omega) | omega)) | (with_reducible first | refine Ext.tr ?_ x1 | refine Ext.tr ?_ x2 | refine Ext.tr ?_ x3 | refine Ext.tr ?_ x4 | refine Ext.tr ?_ x5 | refine Ext.tr ?_ x6 | refine Ext.tr ?_ x7 | refine Ext.tr ?_ x8 | refine Ext.tr ?_ xb | refine Ext.tr ?_ xc | refine Ext.tr ?_ hx | refine Ext.tr ?_ hext | assumption)))) (by omega) _ _ _ _ _, Lib.hid (((((bE4.out.far (p := ⟨v3.heap.size, 0, none⟩) (by show _ ≠ v3.heap.size; omega) _).far (p := ⟨v3.heap.size, 1, none⟩) (by show _ ≠ v3.heap.size; omega) _).far (p := ⟨v3.heap.size, 2, none⟩) (by show _ ≠ v3.heap.size; omega) _).far (p := ⟨v3.heap.size, 3, none⟩) (by show _ ≠ v3.heap.size; omega) _).far (p := ⟨v3.heap.size, 4, none⟩) (by show _ ≠ v3.heap.size; omega) _), Lib.hid (rg4.out.set5 (b := v3.heap.size) (by first | omega | (simp; done) | (simp; omega)) _ _ _ _ _).at, BN.cell 0, BN.cell 1, BN.cell 2, BN.cell 3, BN.cell 4⟩
            · go_wp2_with fail
              go_meet
              have hE := hE4.out
              have hz3 := x3.size
              have hz4 := x4.size
              (try simp at hE)
              (try simp at hz3)
              (try simp at hz4)
              have BN := blk_set5 (show Blk v4 (vb.heap.size) 62 (rv none 0 0 0 0 0 0) from ((Blk.new vb _ _).drew.ext x3).ext x4) (.slice a4 m4 d4) (.int .u64 p4) (.int .u64 q4) (.int .u64 r4) (.int .u64 s4)
              exact ⟨E4, vb.heap.size, a4, m4, d4, p4, q4, r4, s4, rfl, rfl, rfl, own_ext5 (show Ext vb v4 from (by repeat (first | (with_reducible first | exact Ext.refl _ | apply Ext.drew | apply Ext.drewN | apply Ext.alloc) | ((with_reducible refine Ext.setCell ?_ ?_ _); rotate_left; focus (first | (simp; done) | (simp; omega) | omega)) | (with_reducible first | refine Ext.tr ?_ x1 | refine Ext.tr ?_ x2 | refine Ext.tr ?_ x3 | refine Ext.tr ?_ x4 | refine Ext.tr ?_ x5 | refine Ext.tr ?_ x6 | refine Ext.tr ?_ x7 | refine Ext.tr ?_ x8 | refine Ext.tr ?_ xb | refine Ext.tr ?_ xc | refine Ext.tr ?_ hx | refine Ext.tr ?_ hext | assumption)))) (by omega) _ _ _ _ _, Lib.hid (((((bE4.out.far (p := ⟨vb.heap.size, 0, none⟩) (by show _ ≠ vb.heap.size; omega) _).far (p := ⟨vb.heap.size, 1, none⟩) (by show _ ≠ vb.heap.size; omega) _).far (p := ⟨vb.heap.size, 2, none⟩) (by show _ ≠ vb.heap.size; omega) _).far (p := ⟨vb.heap.size, 3, none⟩) (by show _ ≠ vb.heap.size; omega) _).far (p := ⟨vb.heap.size, 4, none⟩) (by show _ ≠ vb.heap.size; omega) _), Lib.hid (rg4.out.set5 (b := vb.heap.size) (by first | omega | (simp; done) | (simp; omega)) _ _ _ _ _).at, BN.cell 0, BN.cell 1, BN.cell 2, BN.cell 3, BN.cell 4⟩
          case rest =>
            obtain ⟨E4, g4, a4, m4, d4, p4, q4, r4, s4, rfl, rfl, rfl, xc, bE4, rg4, j0, j1, j2, j3, j4⟩ := hcut
            obtain ⟨W1, rfl⟩ : ∃ W1 : World, W1 = wc := ⟨_, rfl⟩
            clear k0 k1 k2 k3 k4 k5 k6 k7 k8 k9 k10 CP SH2
            have BC := Lib.hid (BB.out.ext xc)
            have zc := BC.out.lt
            obtain ⟨k0, k1, k2, k3, k4, k5, k6, k7, k8, k9, k10⟩ := ask_blk BC.out
            obtain ⟨l0, l1, l2, l3, l4⟩ : W1.cell? ⟨S, 0, none⟩ = some (.slice a2 m2 d2) ∧ W1.cell? ⟨S, 1, none⟩ = some (.int .u64 p2) ∧ W1.cell? ⟨S, 2, none⟩ = some (.int .u64 q2) ∧ W1.cell? ⟨S, 3, none⟩ = some (.int .u64 r2) ∧ W1.cell? ⟨S, 4, none⟩ = some (.int .u64 s2) := ⟨(BS.out.ext xc).cell 0, (BS.out.ext xc).cell 1, (BS.out.ext xc).cell 2, (BS.out.ext xc).cell 3, (BS.out.ext xc).cell 4⟩
            have zS1 : S < W1.heap.size := (BS.out.ext xc).lt
            have zg1 : g4 < W1.heap.size := cell_lt j0
            have xw1 : Ext wo W1 := xb.tr xc
            have hmx : n ≤ maxLen := by unfold maxLen; omega
            have R1 := Row.of_blk (RO.out.ext xc) (shufAt_len _ _ _) hmx
            have R2 := Row.of_blk bE4.out (shufAt_len _ _ _) hmx
            have AX := Lib.hid (fun u (x : Ext W1 u) => axes_yes (R1.ext x) (shufAt_len n g (n - 1)) (by omega) (fun i hi => mem_shuf (g := g) (n - 1) (by omega) (mem_iota hi)))
            have EN : Hid (∀ u (x : Ext W1 u), Calls Tryz.prog 39 #[.slice (some ⟨E2, 0, none⟩) n n, .slice (some ⟨E4, 0, none⟩) n n] u fun e w' => e = .returned (.bool true) ∧ Ext u w') := Lib.hid fun u x => (eqNumbers_any (R1.ext x) (R2.ext x)).mono (by
              rintro e w' ⟨rfl, m, rfl⟩
              exact ⟨by simp, (Ext.refl _).drewN _⟩)
            have ER := Lib.hid (fun u (x : Ext W1 u) => eq_rand ((RG.out.ext xc).ext x) (rg4.out.ext x))
            clear R1 R2 xc xb bE4 rg4 RO RG BB
            go_upto_region 9 with fail
            go_cut [118] (fun s118 wx => s118 = .bool false ∧ Ext W1 wx)
            case first => as_aux_lemma =>
              go_wp2_with fail; refine (num25_any _ _).mono ?_; rintro e w' ⟨rfl, rfl⟩
              go_wp2_with fail; refine (num25_any _ _).mono ?_; rintro e w' ⟨rfl, rfl⟩
              go_wp2_with fail; refine (AX.out _ (by repeat (first | (with_reducible first | exact Ext.refl _ | apply Ext.drew | apply Ext.drewN | apply Ext.alloc) | ((with_reducible refine Ext.setCell ?_ ?_ _); rotate_left; focus (first | (simp; done) | (simp; omega) | omega)) | (with_reducible first | refine Ext.tr ?_ x1 | refine Ext.tr ?_ x2 | refine Ext.tr ?_ x3 | refine Ext.tr ?_ x4 | refine Ext.tr ?_ x5 | refine Ext.tr ?_ x6 | refine Ext.tr ?_ x7 | refine Ext.tr ?_ x8 | refine Ext.tr ?_ xb | refine Ext.tr ?_ xc | refine Ext.tr ?_ hx | refine Ext.tr ?_ hext | assumption)))).mono ?_; rintro e w' ⟨rfl, rfl⟩
              go_wp2_with fail; refine (EN.out _ (by repeat (first | (with_reducible first | exact Ext.refl _ | apply Ext.drew | apply Ext.drewN | apply Ext.alloc) | ((with_reducible refine Ext.setCell ?_ ?_ _); rotate_left; focus (first | (simp; done) | (simp; omega) | omega)) | (with_reducible first | refine Ext.tr ?_ x1 | refine Ext.tr ?_ x2 | refine Ext.tr ?_ x3 | refine Ext.tr ?_ x4 | refine Ext.tr ?_ x5 | refine Ext.tr ?_ x6 | refine Ext.tr ?_ x7 | refine Ext.tr ?_ x8 | refine Ext.tr ?_ xb | refine Ext.tr ?_ xc | refine Ext.tr ?_ hx | refine Ext.tr ?_ hext | assumption)))).mono ?_; rintro e v5 ⟨rfl, x5⟩; obtain ⟨c5, f5⟩ := x5.rules; have z5 := x5.size; have lq := fun o => c5 (S) o (by first | (simp; done) | (simp; omega) | omega); have mq := fun o => f5 (S) o (by first | (simp; done) | (simp; omega) | omega); have k5_S_0 := lq 0; have q5_S_0 := mq 0; have k5_S_1 := lq 1; have q5_S_1 := mq 1; have k5_S_2 := lq 2; have q5_S_2 := mq 2; have k5_S_3 := lq 3; have q5_S_3 := mq 3; have k5_S_4 := lq 4; have q5_S_4 := mq 4; clear lq mq; have lq := fun o => c5 (g4) o (by first | (simp; done) | (simp; omega) | omega); have mq := fun o => f5 (g4) o (by first | (simp; done) | (simp; omega) | omega); have k5_g4_0 := lq 0; have q5_g4_0 := mq 0; have k5_g4_1 := lq 1; have q5_g4_1 := mq 1; have k5_g4_2 := lq 2; have q5_g4_2 := mq 2; have k5_g4_3 := lq 3; have q5_g4_3 := mq 3; have k5_g4_4 := lq 4; have q5_g4_4 := mq 4; clear lq mq; have z5_S : S < v5.heap.size := (by (try simp at z5); omega); have z5_g4 : g4 < v5.heap.size := (by (try simp at z5); omega); (try simp at z5); clear c5 f5; simp [go_sem, *] at k5_S_0 q5_S_0 k5_S_1 q5_S_1 k5_S_2 q5_S_2 k5_S_3 q5_S_3 k5_S_4 q5_S_4 k5_g4_0 q5_g4_0 k5_g4_1 q5_g4_1 k5_g4_2 q5_g4_2 k5_g4_3 q5_g4_3 k5_g4_4 q5_g4_4
              go_wp2_with fail; refine (ER.out _ (by repeat (first | (with_reducible first | exact Ext.refl _ | apply Ext.drew | apply Ext.drewN | apply Ext.alloc) | ((with_reducible refine Ext.setCell ?_ ?_ _); rotate_left; focus (first | (simp; done) | (simp; omega) | omega)) | (with_reducible first | refine Ext.tr ?_ x1 | refine Ext.tr ?_ x2 | refine Ext.tr ?_ x3 | refine Ext.tr ?_ x4 | refine Ext.tr ?_ x5 | refine Ext.tr ?_ x6 | refine Ext.tr ?_ x7 | refine Ext.tr ?_ x8 | refine Ext.tr ?_ xb | refine Ext.tr ?_ xc | refine Ext.tr ?_ hx | refine Ext.tr ?_ hext | assumption)))).mono ?_; rintro e v6 ⟨rfl, x6⟩; obtain ⟨c6, f6⟩ := x6.rules; have z6 := x6.size
              go_wp2_with fail
              go_meet
              exact ⟨rfl, (by repeat (first | (with_reducible first | exact Ext.refl _ | apply Ext.drew | apply Ext.drewN | apply Ext.alloc) | ((with_reducible refine Ext.setCell ?_ ?_ _); rotate_left; focus (first | (simp; done) | (simp; omega) | omega)) | (with_reducible first | refine Ext.tr ?_ x1 | refine Ext.tr ?_ x2 | refine Ext.tr ?_ x3 | refine Ext.tr ?_ x4 | refine Ext.tr ?_ x5 | refine Ext.tr ?_ x6 | refine Ext.tr ?_ x7 | refine Ext.tr ?_ x8 | refine Ext.tr ?_ xb | refine Ext.tr ?_ xc | refine Ext.tr ?_ hx | refine Ext.tr ?_ hext | assumption)))⟩
            case rest =>
              obtain ⟨rfl, x1c⟩ := hcut
              obtain ⟨W2, rfl⟩ : ∃ W2 : World, W2 = wc := ⟨_, rfl⟩
              clear k0 k1 k2 k3 k4 k5 k6 k7 k8 k9 k10 AX EN ER l0 l1 l2 l3 l4 j0 j1 j2 j3 j4
              have BD := Lib.hid (BC.out.ext x1c)
              have xw2 : Ext wo W2 := xw1.tr x1c
              have zD := BD.out.lt
              obtain ⟨k0, k1, k2, k3, k4, k5, k6, k7, k8, k9, k10⟩ := ask_blk BD.out
              clear BS BC x1c xw1 zS zS1 zg1
              have MK := Lib.hid (fun u (x : Ext wo u) => mask_all (n := n) (q := 0) (HR.out.ext x) FINE.out (by omega) (by omega) (by omega) (by omega))
              go_wp2_with fail; refine (MK.out _ (by repeat (first | (with_reducible first | exact Ext.refl _ | apply Ext.drew | apply Ext.drewN | apply Ext.alloc) | ((with_reducible refine Ext.setCell ?_ ?_ _); rotate_left; focus (first | (simp; done) | (simp; omega) | omega)) | (with_reducible first | refine Ext.tr ?_ x1 | refine Ext.tr ?_ x2 | refine Ext.tr ?_ x3 | refine Ext.tr ?_ x4 | refine Ext.tr ?_ x5 | refine Ext.tr ?_ x6 | refine Ext.tr ?_ x7 | refine Ext.tr ?_ x8 | refine Ext.tr ?_ xb | refine Ext.tr ?_ xc | refine Ext.tr ?_ hx | refine Ext.tr ?_ hext | assumption)))).mono ?_; rintro e v7 ⟨oa7, oc7, a7, m7, d7, p7, q7, r7, s7, rfl, x7, mt7⟩; obtain ⟨c7, f7⟩ := x7.rules; have z7 := x7.size
              have BF := Lib.hid ((BD.out.ext x7).alloc (.cells #[.slice a7 m7 d7, .int .u64 p7, .int .u64 q7, .int .u64 r7, .int .u64 s7] 62))
              have xw3 : Ext wo (v7.alloc (.cells #[.slice a7 m7 d7, .int .u64 p7, .int .u64 q7, .int .u64 r7, .int .u64 s7] 62)) := (xw2.tr x7).alloc _
              obtain ⟨b7, o7, rfl, c7m⟩ : ∃ b7 o7, oa7 = some ⟨b7, o7, none⟩ ∧ ∀ i, i < n → (v7.alloc (.cells #[.slice a7 m7 d7, .int .u64 p7, .int .u64 q7, .int .u64 r7, .int .u64 s7] 62)).cell? ⟨b7, o7 + i, none⟩ = some (.int .i64 1) := by
                have hr := ((Row.of_owns mt7.out.own).1).ext (Ext.alloc (Ext.refl v7) (.cells #[.slice a7 m7 d7, .int .u64 p7, .int .u64 q7, .int .u64 r7, .int .u64 s7] 62))
                rw [masks_one, List.nil_append] at hr
                obtain ⟨a', c', e, -, -, h3⟩ := hr
                injection e with e1 _ _
                subst e1
                obtain ⟨b', o', rfl, hc⟩ := h3 (by intro e; have := congrArg List.length e; simp at this; omega)
                refine ⟨b', o', rfl, fun i hi => ?_⟩
                have := hc i (by simpa using hi)
                rwa [List.getD_eq_getElem?_getD, List.getElem?_replicate, if_pos hi] at this
              clear k0 k1 k2 k3 k4 k5 k6 k7 k8 k9 k10 BD x7 mt7 MK xw2 c7 f7
              have zF := BF.out.lt
              obtain ⟨k0, k1, k2, k3, k4, k5, k6, k7, k8, k9, k10⟩ := ask_blk BF.out
              go_wp2_with fail
              generalize v7.alloc (.cells #[.slice a7 m7 d7, .int .u64 p7, .int .u64 q7, .int .u64 r7, .int .u64 s7] 62) = W3 at *
              refine (num25_any _ _).mono ?_
              rintro e w' ⟨rfl, rfl⟩
              go_wp2_with fail
              go_loopw [15] (fun i wr => ∃ j : Nat, j ≤ n ∧ i = .int .i64 j ∧ wr = W3) (fun i _ => n - (intOf i).toNat)
              case atStart => exact ⟨0, Nat.zero_le _, rfl, rfl⟩
              case round =>
                obtain ⟨j, hj, rfl, rfl⟩ := hrel
                by_cases hjn : j < n
                · as_aux_lemma =>
                  have hjz : (j : Int) < (n : Int) := by omega
                  have cj := c7m j hjn
                  clear k0 k1 k2 k3 k4 k5 k6 k7 k8 k9 k10 c7m
                  go_wp2
                  go_roundw
                  case rel => exact ⟨j + 1, by omega, by go_num, by simp⟩
                  case measure => simp [intOf]; omega
                · as_aux_lemma =>
                  obtain rfl : n = j := by omega
                  clear c7m
                  have SPP := shp_dims EE.out.1
                  obtain ⟨cn, hcn⟩ : ∃ cn : Nat, pr ss = cn := ⟨(pr ss).toNat, by have := (pr_bd _ ss rfl SPP.1.2).1; omega⟩
                  have cn1 : cn ≤ 65536 := by have := SPP.2; omega
                  have FI := EE.out.2.1
                  have FO := EE.out.2.2
                  simp only [fanB, Bool.and_eq_true, decide_eq_true_eq] at FI FO
                  have ew : IntKind.i64.wrap (In + Out) = In + Out := wrap_i64 (by omega) (by omega)
                  have FO2 := Lib.hid (show 0 < In + Out by omega)
                  have XV := Lib.hid (fun u (x : Ext wo u) => xavier_ok (In := In) (Out := Out) (f := fF) (HR.out.ext x) FINE.out (HS.out.ext x) EE.out.1 cn hcn EE.out.2.1 EE.out.2.2 GF.out)
                  have HCN := Lib.hid hcn
                  obtain ⟨FI0, FI1⟩ := FI
                  obtain ⟨FO0, FO1⟩ := FO
                  clear hcn SPP
                  go_wp2_with fail; refine (XV.out _ (by repeat (first | (with_reducible first | exact Ext.refl _ | apply Ext.drew | apply Ext.drewN | apply Ext.alloc) | ((with_reducible refine Ext.setCell ?_ ?_ _); rotate_left; focus (first | (simp; done) | (simp; omega) | omega)) | (with_reducible first | refine Ext.tr ?_ x1 | refine Ext.tr ?_ x2 | refine Ext.tr ?_ x3 | refine Ext.tr ?_ x4 | refine Ext.tr ?_ x5 | refine Ext.tr ?_ x6 | refine Ext.tr ?_ x7 | refine Ext.tr ?_ x8 | refine Ext.tr ?_ xb | refine Ext.tr ?_ xc | refine Ext.tr ?_ hx | refine Ext.tr ?_ hext | assumption)))).mono ?_; rintro e v8 ⟨r, a8, c8_, g8, a9, m9, d9, p9, q9, r9, s9, rfl, x8, nr8, tg8, rn8⟩; obtain ⟨c8, f8⟩ := x8.rules; have z8 := x8.size
                  have BG := Lib.hid (BF.out.ext x8)
                  have xw4 := xw3.tr x8
                  clear k0 k1 k2 k3 k4 k5 k6 k7 k8 k9 k10 BF x8 xw3 XV rn8 c8 f8
                  obtain ⟨k0, k1, k2, k3, k4, k5, k6, k7, k8, k9, k10⟩ := ask_blk BG.out
                  go_upto_region 20 with fail
                  have BD1 := bound_lt (n := In + Out) FO2.out GF.out nr8.out.1
                  obtain ⟨r0', r1'⟩ := BD1
                  have XX : Ext v8 ((v8.alloc (.cells #[.slice a8 ss.length c8_, .slice (some ⟨g8, 0, none⟩) cn cn] 26)).alloc (.cells #[.slice a9 m9 d9, .int .u64 p9, .int .u64 q9, .int .u64 r9, .int .u64 s9] 62)) := ((Ext.refl v8).alloc _).alloc _
                  have BG2 := Lib.hid (BG.out.ext XX)
                  have BT := Lib.hid ((Blk.new v8 26 #[.slice a8 ss.length c8_, .slice (some ⟨g8, 0, none⟩) cn cn]).alloc (.cells #[.slice a9 m9 d9, .int .u64 p9, .int .u64 q9, .int .u64 r9, .int .u64 s9] 62))
                  have TG := Lib.hid (tg8.out.ext XX)
                  have xw5 : Ext wo ((v8.alloc (.cells #[.slice a8 ss.length c8_, .slice (some ⟨g8, 0, none⟩) cn cn] 26)).alloc (.cells #[.slice a9 m9 d9, .int .u64 p9, .int .u64 q9, .int .u64 r9, .int .u64 s9] 62)) := xw4.tr XX
                  clear k0 k1 k2 k3 k4 k5 k6 k7 k8 k9 k10 BG tg8 xw4 XX
                  generalize (v8.alloc (.cells #[.slice a8 ss.length c8_, .slice (some ⟨g8, 0, none⟩) cn cn] 26)).alloc (.cells #[.slice a9 m9 d9, .int .u64 p9, .int .u64 q9, .int .u64 r9, .int .u64 s9] 62) = W4 at *
                  generalize v8.heap.size = T8 at *
                  obtain ⟨k0, k1, k2, k3, k4, k5, k6, k7, k8, k9, k10⟩ := ask_blk BG2.out
                  obtain ⟨t0, t1⟩ : W4.cell? ⟨T8, 0, none⟩ = some (.slice a8 ss.length c8_) ∧ W4.cell? ⟨T8, 1, none⟩ = some (.slice (some ⟨g8, 0, none⟩) cn cn) := ⟨BT.out.cell 0, BT.out.cell 1⟩
                  have zG := BG2.out.lt
                  have zT := BT.out.lt
                  have M8 : Hid (∀ u (x : Ext W4 u), Calls Tryz.prog 14 #[.agg #[.slice a8 ss.length c8_, .slice (some ⟨g8, 0, none⟩) cn cn]] u fun e w' => e = .returned (.bool true) ∧ Ext u w') := Lib.hid fun u x => by
                    have h := may8_any (TG.out.row_s.ext x) ((Row.of_blk TG.out.bd (fillG_len _ _ _) (by unfold maxLen; omega)).ext x)
                    rw [show tenB ss (fillG r cn g).1 = true from by
                      rw [ten_all EE.out.1 (by rw [fillG_len]; simp [HCN.out])]
                      exact all_ok (fun j hj => by
                        have := fillG_bd r0' cn g _ (getD_mem _ j hj)
                        exact gd_t (by omega) (by omega))] at h
                    exact h
                  have EN2 : Hid (∀ u (x : Ext W4 u), Calls Tryz.prog 39 #[.slice a8 ss.length c8_, .slice sb ss.length sc] u fun e w' => e = .returned (.bool true) ∧ Ext u w') := Lib.hid fun u x => (eqNumbers_any (TG.out.row_s.ext x) ((HS.out.ext xw5).ext x)).mono (by
                    rintro e w' ⟨rfl, m, rfl⟩
                    exact ⟨by simp, (Ext.refl _).drewN _⟩)
                  go_cut [178] (fun s178 wx => s178 = .bool false ∧ Ext W4 wx)
                  case first => as_aux_lemma =>
                    go_wp2_with fail; refine (num25_any _ _).mono ?_; rintro e w' ⟨rfl, rfl⟩
                    go_wp2_with fail; refine (M8.out _ (by repeat (first | (with_reducible first | exact Ext.refl _ | apply Ext.drew | apply Ext.drewN | apply Ext.alloc) | ((with_reducible refine Ext.setCell ?_ ?_ _); rotate_left; focus (first | (simp; done) | (simp; omega) | omega)) | (with_reducible first | refine Ext.tr ?_ x1 | refine Ext.tr ?_ x2 | refine Ext.tr ?_ x3 | refine Ext.tr ?_ x4 | refine Ext.tr ?_ x5 | refine Ext.tr ?_ x6 | refine Ext.tr ?_ x7 | refine Ext.tr ?_ x8 | refine Ext.tr ?_ xb | refine Ext.tr ?_ xc | refine Ext.tr ?_ hx | refine Ext.tr ?_ hext | assumption)))).mono ?_; rintro e v5 ⟨rfl, x5⟩; obtain ⟨c5, f5⟩ := x5.rules; have z5 := x5.size; have lq := fun o => c5 (T8) o (by first | (simp; done) | (simp; omega) | omega); have mq := fun o => f5 (T8) o (by first | (simp; done) | (simp; omega) | omega); have k5_T8_0 := lq 0; have q5_T8_0 := mq 0; have k5_T8_1 := lq 1; have q5_T8_1 := mq 1; clear lq mq; have lq := fun o => c5 (wo.heap.size) o (by first | (simp; done) | (simp; omega) | omega); have mq := fun o => f5 (wo.heap.size) o (by first | (simp; done) | (simp; omega) | omega); have k5_wo_heap_size_0 := lq 0; have q5_wo_heap_size_0 := mq 0; have k5_wo_heap_size_1 := lq 1; have q5_wo_heap_size_1 := mq 1; have k5_wo_heap_size_2 := lq 2; have q5_wo_heap_size_2 := mq 2; have k5_wo_heap_size_3 := lq 3; have q5_wo_heap_size_3 := mq 3; have k5_wo_heap_size_4 := lq 4; have q5_wo_heap_size_4 := mq 4; have k5_wo_heap_size_5 := lq 5; have q5_wo_heap_size_5 := mq 5; have k5_wo_heap_size_6 := lq 6; have q5_wo_heap_size_6 := mq 6; have k5_wo_heap_size_7 := lq 7; have q5_wo_heap_size_7 := mq 7; have k5_wo_heap_size_8 := lq 8; have q5_wo_heap_size_8 := mq 8; have k5_wo_heap_size_9 := lq 9; have q5_wo_heap_size_9 := mq 9; have k5_wo_heap_size_10 := lq 10; have q5_wo_heap_size_10 := mq 10; clear lq mq; have z5_T8 : T8 < v5.heap.size := (by (try simp at z5); omega); have z5_wo_heap_size : wo.heap.size < v5.heap.size := (by (try simp at z5); omega); (try simp at z5); clear c5 f5; simp [go_sem, *] at k5_T8_0 q5_T8_0 k5_T8_1 q5_T8_1 k5_wo_heap_size_0 q5_wo_heap_size_0 k5_wo_heap_size_1 q5_wo_heap_size_1 k5_wo_heap_size_2 q5_wo_heap_size_2 k5_wo_heap_size_3 q5_wo_heap_size_3 k5_wo_heap_size_4 q5_wo_heap_size_4 k5_wo_heap_size_5 q5_wo_heap_size_5 k5_wo_heap_size_6 q5_wo_heap_size_6 k5_wo_heap_size_7 q5_wo_heap_size_7 k5_wo_heap_size_8 q5_wo_heap_size_8 k5_wo_heap_size_9 q5_wo_heap_size_9 k5_wo_heap_size_10 q5_wo_heap_size_10
                    go_wp2_with fail; refine (EN2.out _ (by repeat (first | (with_reducible first | exact Ext.refl _ | apply Ext.drew | apply Ext.drewN | apply Ext.alloc) | ((with_reducible refine Ext.setCell ?_ ?_ _); rotate_left; focus (first | (simp; done) | (simp; omega) | omega)) | (with_reducible first | refine Ext.tr ?_ x1 | refine Ext.tr ?_ x2 | refine Ext.tr ?_ x3 | refine Ext.tr ?_ x4 | refine Ext.tr ?_ x5 | refine Ext.tr ?_ x6 | refine Ext.tr ?_ x7 | refine Ext.tr ?_ x8 | refine Ext.tr ?_ xb | refine Ext.tr ?_ xc | refine Ext.tr ?_ hx | refine Ext.tr ?_ hext | assumption)))).mono ?_; rintro e v6 ⟨rfl, x6⟩; obtain ⟨c6, f6⟩ := x6.rules; have z6 := x6.size
                    go_wp2_with fail
                    go_meet
                    exact ⟨rfl, (by repeat (first | (with_reducible first | exact Ext.refl _ | apply Ext.drew | apply Ext.drewN | apply Ext.alloc) | ((with_reducible refine Ext.setCell ?_ ?_ _); rotate_left; focus (first | (simp; done) | (simp; omega) | omega)) | (with_reducible first | refine Ext.tr ?_ x1 | refine Ext.tr ?_ x2 | refine Ext.tr ?_ x3 | refine Ext.tr ?_ x4 | refine Ext.tr ?_ x5 | refine Ext.tr ?_ x6 | refine Ext.tr ?_ x7 | refine Ext.tr ?_ x8 | refine Ext.tr ?_ xb | refine Ext.tr ?_ xc | refine Ext.tr ?_ hx | refine Ext.tr ?_ hext | assumption)))⟩
                  case rest =>
                    obtain ⟨rfl, x2c⟩ := hcut
                    obtain ⟨W5, rfl⟩ : ∃ W5 : World, W5 = wc := ⟨_, rfl⟩
                    clear k0 k1 k2 k3 k4 k5 k6 k7 k8 k9 k10 M8 EN2 t0 t1
                    have BH := Lib.hid (BG2.out.ext x2c)
                    have TH := Lib.hid (TG.out.ext x2c)
                    have BTH := Lib.hid (BT.out.ext x2c)
                    have xw6 := xw5.tr x2c
                    have zH := BH.out.lt
                    obtain ⟨k0, k1, k2, k3, k4, k5, k6, k7, k8, k9, k10⟩ := ask_blk BH.out
                    have RT := ratio6 (n := In + Out) FO2.out GF.out
                    have DV : Hid (∀ u, Calls Tryz.prog 43 #[.int .i64 6, .int .i64 (In + Out), .int .i64 fF] u fun e w' => e = .returned (.tuple #[.int .i64 (dv 6 (In + Out) fF), .int .i64 0]) ∧ Ext u w') := Lib.hid fun u => by
                      obtain ⟨f1, f2⟩ := gdF_iff.1 GF.out
                      have h := RefDiv_ref 6 (In + Out) fF u (by omega) (by omega) (by omega) (by omega) (by omega) (by omega)
                      rw [RT.2.2.1] at h
                      exact h
                    have SQ : Hid (∀ u, Calls Tryz.prog 44 #[.int .i64 (dv 6 (In + Out) fF), .int .i64 fF] u fun e w' => e = .returned (.tuple #[.int .i64 r, .int .i64 0]) ∧ Ext u w') := Lib.hid fun u => (RSqrt_ref u RT.2.2.2 GF.out RT.1).mono (by
                      rintro e w' ⟨r', rfl, x, nr'⟩
                      obtain rfl := near_root_only (by decide) nr8.out.1 nr'
                      exact ⟨by rw [wv_of nr8.out.2, we_of nr8.out.2], x⟩)
                    have FB := Lib.hid (fun j (hj : j < (fillG r cn g).1.length) => fillG_bd r0' cn g _ (getD_mem _ j hj))
                    generalize dv 6 (In + Out) fF = QQ at *
                    clear BG2 TG BT xw5 x2c zG zT RT nr8
                    go_wp2_with fail; refine (DV.out _).mono ?_; rintro e v5 ⟨rfl, x5⟩; obtain ⟨c5, f5⟩ := x5.rules; have z5 := x5.size
                    go_wp2_with fail; refine (SQ.out _).mono ?_; rintro e v6 ⟨rfl, x6⟩; obtain ⟨c6, f6⟩ := x6.rules; have z6 := x6.size
                    have BI := Lib.hid ((BH.out.ext x5).ext x6)
                    have TI := Lib.hid ((TH.out.ext x5).ext x6)
                    have BTI := Lib.hid ((BTH.out.ext x5).ext x6)
                    have xw7 : Ext wo v6 := (xw6.tr x5).tr x6
                    have zT6 := BTI.out.lt
                    obtain ⟨t0, t1⟩ : v6.cell? ⟨T8, 0, none⟩ = some (.slice a8 ss.length c8_) ∧ v6.cell? ⟨T8, 1, none⟩ = some (.slice (some ⟨g8, 0, none⟩) cn cn) := ⟨BTI.out.cell 0, BTI.out.cell 1⟩
                    have en : IntKind.i64.wrap (-r) = -r := wrap_i64 (by omega) (by omega)
                    clear k0 k1 k2 k3 k4 k5 k6 k7 k8 k9 k10 BH TH BTH DV SQ x5 x6 xw6 c5 f5 c6 f6 zH ew
                    go_wp2_with fail
                    go_loopw [23] (fun i wr => ∃ j : Nat, j ≤ cn ∧ i = .int .i64 j ∧ wr = v6) (fun i _ => cn - (intOf i).toNat)
                    case atStart => exact ⟨0, Nat.zero_le _, rfl, rfl⟩
                    case round =>
                      obtain ⟨j, hj, rfl, rfl⟩ := hrel
                      by_cases hjn : j < cn
                      · as_aux_lemma =>
                        have hjz : (j : Int) < (cn : Int) := by omega
                        have hlz : j < (fillG r cn g).1.length := by rw [fillG_len]; exact hjn
                        have cj := (TI.out.bd.cell j).trans (ints_at _ j hlz)
                        obtain ⟨b1, b2⟩ := FB.out j hlz
                        generalize (fillG r cn g).1.getD j 0 = X at *
                        have d1 : decide (r < X) = false := by simp; omega
                        have d2 : decide (X < -r) = false := by simp; omega
                        clear TI FB
                        go_wp2
                        go_roundw
                        case rel => exact ⟨j + 1, by omega, by go_num, by simp⟩
                        case measure => simp [intOf]; omega
                      · as_aux_lemma =>
                        obtain rfl : cn = j := by omega
                        clear TI FB
                        go_wp2
                        go_roundw
                        case rel => exact ⟨k + 1, by omega, by go_num, hext.tr xw7⟩
                        case measure => simp [intOf]; omega
    · have W := Lib.hid wakes25
      by_cases h1 : k < len
      · go_wp2_with fail
        refine (W.out _).mono ?_
        rintro e w' ⟨rfl, xw⟩
        go_wp2
        go_ret
        exact ⟨rfl, hext.tr xw⟩
      · go_wp2_with fail
        refine (W.out _).mono ?_
        rintro e w' ⟨rfl, xw⟩
        go_wp2
        go_ret
        exact ⟨rfl, hext.tr xw⟩
set_option maxRecDepth 100000 in
theorem sbounds_zero (a : Option Addr) (cap : Nat) (w : World) :
    Calls Tryz.prog 5 #[.slice a 0 cap] w fun e w' => e = .returned (.bool true) ∧ Ext w w' := by
  have W := Lib.hid wakes25
  go_enter Tryz.func5, Tryz.ntmps5
  go_wp2_with fail
  refine wp_loop_rounds 1 ?_
  rw [rounds_succ]
  go_wp2_with fail; refine (W.out _).mono ?_; rintro e v1 ⟨rfl, x1⟩; obtain ⟨c1, f1⟩ := x1.rules; have z1 := x1.size
  go_wp2
  go_ret
  exact ⟨rfl, (by repeat (first | (with_reducible first | exact Ext.refl _ | apply Ext.drew | apply Ext.drewN | apply Ext.alloc) | ((with_reducible refine Ext.setCell ?_ ?_ _); rotate_left; focus (first | (simp; done) | (simp; omega) | omega)) | (with_reducible first | refine Ext.tr ?_ x1 | refine Ext.tr ?_ x2 | refine Ext.tr ?_ x3 | refine Ext.tr ?_ x4 | refine Ext.tr ?_ x5 | refine Ext.tr ?_ x6 | refine Ext.tr ?_ x7 | refine Ext.tr ?_ x8 | refine Ext.tr ?_ xb | refine Ext.tr ?_ xc | refine Ext.tr ?_ hx | refine Ext.tr ?_ hext | assumption)))⟩
set_option maxRecDepth 100000 in
theorem sbounds_any {H : Type} {enc : TypeId × Value → H} {w : World} {base : Nat} {v : Value} {d : DataW H} {p : List MemPlace}
    (hv : Value.okWide Tryz.prog w .any base 57 v) (h : DataW.Trod enc Tryz.prog w 0 (fun _ => true) true 57 v d p) :
    Calls Tryz.prog 5 #[v] w fun e w' => e = .returned (.bool true) ∧ Ext w w' := by
  rcases askS_open hv h with ⟨a, cap, rfl⟩ | ⟨b, o, len, cap, rfl, h1, h2, h3⟩
  · exact sbounds_zero a cap w
  · exact sbounds_walk b o len cap w h2 h3
end Go.Proofs.YtapmldoehbeedaaGreat
