/- FxSums: the walk. -/
import Derived.Test.YtielcbpjnjdlmaaReckon
import Derived.Test.YtielcbpjnjdlmaaTwos
namespace Go.Proofs.Ytielcbpjnjdlmaa
open Go.RowKit
set_option maxHeartbeats 4000000 in
set_option maxRecDepth 100000 in
theorem sums_walk (b o len cap : Nat) (w : World) (_hl : len ≤ 9223372036854775807) (hT : TwosAt w b o len) :
    Calls Try.prog 6 #[.slice (some ⟨b, o, none⟩) len cap] w fun e w' => e = .returned (.bool true) ∧ Ext w w' := by
  have HT := Lib.hid hT
  clear hT
  go_enter Try.func6, Try.ntmps6
  go_wp2_with fail
  go_loopw [3] (fun i wr => ∃ k : Nat, k ≤ len ∧ i = .int .i64 k ∧ Ext w wr) (fun i _ => len - (intOf i).toNat)
  case atStart => exact ⟨0, Nat.zero_le _, rfl, Ext.refl _⟩
  case round =>
    obtain ⟨k, hk, rfl, hext⟩ := hrel
    by_cases hlt : k < len ∧ k < 30
    · obtain ⟨h1, h2⟩ := hlt
      obtain ⟨A, B, F, N, D, H, L, K, t0, hA, hB, -⟩ := HT.out k h1
      obtain ⟨d0, d1, d2, d3, d4, d5, d6, d7⟩ := t0.ext hext
      clear t0
      cases gA : gd A
      · go_wp2_with fail; refine (may2_any _ _).mono ?_; rintro e w' ⟨rfl, rfl⟩
        go_wp2_with fail
        go_roundw
        case rel => exact ⟨k + 1, by omega, by go_num, (by repeat (first | exact Ext.refl _ | apply Ext.drew | apply Ext.drewN | apply Ext.alloc | refine Ext.tr ?_ x1 | refine Ext.tr ?_ x2 | refine Ext.tr ?_ x3 | refine Ext.tr ?_ x4 | refine Ext.tr ?_ x5 | refine Ext.tr ?_ x6 | refine Ext.tr ?_ x7 | refine Ext.tr ?_ x8 | refine Ext.tr ?_ x9 | refine Ext.tr ?_ xa | refine Ext.tr ?_ xb | refine Ext.tr ?_ xc | refine Ext.tr ?_ xd | refine Ext.tr ?_ xe | refine Ext.tr ?_ xf | refine Ext.tr ?_ xg | refine Ext.tr ?_ hx | refine Ext.tr ?_ hext | (refine Ext.setCell ?_ (by first | (simp; done) | (simp; omega) | omega) _) | assumption))⟩
        case measure => simp [intOf]; omega
      · cases gB : gd B
        · go_wp2_with fail; refine (may2_any _ _).mono ?_; rintro e w' ⟨rfl, rfl⟩
          go_wp2_with fail; refine (may2_any _ _).mono ?_; rintro e w' ⟨rfl, rfl⟩
          go_wp2_with fail
          go_roundw
          case rel => exact ⟨k + 1, by omega, by go_num, (by repeat (first | exact Ext.refl _ | apply Ext.drew | apply Ext.drewN | apply Ext.alloc | refine Ext.tr ?_ x1 | refine Ext.tr ?_ x2 | refine Ext.tr ?_ x3 | refine Ext.tr ?_ x4 | refine Ext.tr ?_ x5 | refine Ext.tr ?_ x6 | refine Ext.tr ?_ x7 | refine Ext.tr ?_ x8 | refine Ext.tr ?_ x9 | refine Ext.tr ?_ xa | refine Ext.tr ?_ xb | refine Ext.tr ?_ xc | refine Ext.tr ?_ xd | refine Ext.tr ?_ xe | refine Ext.tr ?_ xf | refine Ext.tr ?_ xg | refine Ext.tr ?_ hx | refine Ext.tr ?_ hext | (refine Ext.setCell ?_ (by first | (simp; done) | (simp; omega) | omega) _) | assumption))⟩
          case measure => simp [intOf]; omega
        · have wA : Wd A := gd_iff.1 gA
          have wB : Wd B := gd_iff.1 gB
          have e1 := fun v => Add_any B A v wB wA
          rw [Int.add_comm B A] at e1
          have e2 := fun v => Sub_any B A v wB wA
          rw [show B - A = -(A - B) by omega, wv_neg, we_neg] at e2
          have E1 := Lib.hid (fun v => Add_any A B v wA wB)
          have E2 := Lib.hid e1
          have E3 := Lib.hid (fun v => Sub_any A B v wA wB)
          have E4 := Lib.hid e2
          have E5 := Lib.hid (fun v => Neg_any A v wA)
          have e6 := fun v => Neg_any (-A) v (by obtain ⟨h1, h2⟩ := wA; exact ⟨by omega, by omega⟩)
          rw [Int.neg_neg] at e6
          have E6 := Lib.hid e6
          obtain ⟨s1, s2⟩ := wv_wd (A - B)
          obtain ⟨wA1, wA2⟩ := wA
          obtain ⟨wB1, wB2⟩ := wB
          have G := gd_wv (A + B)
          clear e1 e2 e6 
          cases g : gd (A + B)
          · have p1 : wv (A + B) = 0 := wv_no g
            have p2' : we (A + B) = 3 := we_no g
            rw [p1, p2'] at E1 E2
            clear p1 p2' G
            have ck := fun v => check_any 0 v
            simp only [show gd 0 = true from by decide, if_true] at ck
            have CK := Lib.hid ck
            clear ck
            go_wp2_with fail; refine (may2_any _ _).mono ?_; rintro e w' ⟨rfl, rfl⟩
            go_wp2_with fail; refine (may2_any _ _).mono ?_; rintro e w' ⟨rfl, rfl⟩
            go_wp2_with fail; refine (E1.out _).mono ?_; rintro e v1 ⟨rfl, x1⟩; obtain ⟨c1, f1⟩ := x1.rules; have z1 := x1.size; have k1_wr_heap_size_0 := c1 (wr.heap.size) 0 (by first | (simp; done) | (simp; omega) | omega); have q1_wr_heap_size_0 := f1 (wr.heap.size) 0 (by first | (simp; done) | (simp; omega) | omega); have k1_wr_heap_size_1 := c1 (wr.heap.size) 1 (by first | (simp; done) | (simp; omega) | omega); have q1_wr_heap_size_1 := f1 (wr.heap.size) 1 (by first | (simp; done) | (simp; omega) | omega); have z1_wr_heap_size : wr.heap.size < v1.heap.size := (by (try simp at z1); omega); (try simp at z1); clear c1 f1; simp [go_sem, *] at k1_wr_heap_size_0 q1_wr_heap_size_0 k1_wr_heap_size_1 q1_wr_heap_size_1
            go_wp2_with fail; refine (E2.out _).mono ?_; rintro e v2 ⟨rfl, x2⟩; obtain ⟨c2, f2⟩ := x2.rules; have z2 := x2.size; have k2_wr_heap_size_0 := c2 (wr.heap.size) 0 (by first | (simp; done) | (simp; omega) | omega); have q2_wr_heap_size_0 := f2 (wr.heap.size) 0 (by first | (simp; done) | (simp; omega) | omega); have k2_wr_heap_size_1 := c2 (wr.heap.size) 1 (by first | (simp; done) | (simp; omega) | omega); have q2_wr_heap_size_1 := f2 (wr.heap.size) 1 (by first | (simp; done) | (simp; omega) | omega); have z2_wr_heap_size : wr.heap.size < v2.heap.size := (by (try simp at z2); omega); (try simp at z2); clear c2 f2; simp [go_sem, *] at k2_wr_heap_size_0 q2_wr_heap_size_0 k2_wr_heap_size_1 q2_wr_heap_size_1; (try clear k1_wr_heap_size_0); (try clear q1_wr_heap_size_0); (try clear k1_wr_heap_size_1); (try clear q1_wr_heap_size_1)
            go_wp2_with fail; refine (E3.out _).mono ?_; rintro e v3 ⟨rfl, x3⟩; obtain ⟨c3, f3⟩ := x3.rules; have z3 := x3.size; have k3_wr_heap_size_0 := c3 (wr.heap.size) 0 (by first | (simp; done) | (simp; omega) | omega); have q3_wr_heap_size_0 := f3 (wr.heap.size) 0 (by first | (simp; done) | (simp; omega) | omega); have k3_wr_heap_size_1 := c3 (wr.heap.size) 1 (by first | (simp; done) | (simp; omega) | omega); have q3_wr_heap_size_1 := f3 (wr.heap.size) 1 (by first | (simp; done) | (simp; omega) | omega); have z3_wr_heap_size : wr.heap.size < v3.heap.size := (by (try simp at z3); omega); (try simp at z3); clear c3 f3; simp [go_sem, *] at k3_wr_heap_size_0 q3_wr_heap_size_0 k3_wr_heap_size_1 q3_wr_heap_size_1; (try clear k2_wr_heap_size_0); (try clear q2_wr_heap_size_0); (try clear k2_wr_heap_size_1); (try clear q2_wr_heap_size_1)
            go_wp2_with fail; refine (E4.out _).mono ?_; rintro e v4 ⟨rfl, x4⟩; obtain ⟨c4, f4⟩ := x4.rules; have z4 := x4.size; have k4_wr_heap_size_0 := c4 (wr.heap.size) 0 (by first | (simp; done) | (simp; omega) | omega); have q4_wr_heap_size_0 := f4 (wr.heap.size) 0 (by first | (simp; done) | (simp; omega) | omega); have k4_wr_heap_size_1 := c4 (wr.heap.size) 1 (by first | (simp; done) | (simp; omega) | omega); have q4_wr_heap_size_1 := f4 (wr.heap.size) 1 (by first | (simp; done) | (simp; omega) | omega); have z4_wr_heap_size : wr.heap.size < v4.heap.size := (by (try simp at z4); omega); (try simp at z4); clear c4 f4; simp [go_sem, *] at k4_wr_heap_size_0 q4_wr_heap_size_0 k4_wr_heap_size_1 q4_wr_heap_size_1; (try clear k3_wr_heap_size_0); (try clear q3_wr_heap_size_0); (try clear k3_wr_heap_size_1); (try clear q3_wr_heap_size_1)
            go_wp2_with (go_at_call 35; refine (num2_any _ _).mono ?_; rintro e w' ⟨rfl, rfl⟩)
            refine (E5.out _).mono ?_; rintro e v5 ⟨rfl, x5⟩; obtain ⟨c5, f5⟩ := x5.rules; have z5 := x5.size; have k5_wr_heap_size_0 := c5 (wr.heap.size) 0 (by first | (simp; done) | (simp; omega) | omega); have q5_wr_heap_size_0 := f5 (wr.heap.size) 0 (by first | (simp; done) | (simp; omega) | omega); have k5_wr_heap_size_1 := c5 (wr.heap.size) 1 (by first | (simp; done) | (simp; omega) | omega); have q5_wr_heap_size_1 := f5 (wr.heap.size) 1 (by first | (simp; done) | (simp; omega) | omega); have z5_wr_heap_size : wr.heap.size < v5.heap.size := (by (try simp at z5); omega); (try simp at z5); clear c5 f5; simp [go_sem, *] at k5_wr_heap_size_0 q5_wr_heap_size_0 k5_wr_heap_size_1 q5_wr_heap_size_1; (try clear k4_wr_heap_size_0); (try clear q4_wr_heap_size_0); (try clear k4_wr_heap_size_1); (try clear q4_wr_heap_size_1)
            go_wp2_with fail; refine (E6.out _).mono ?_; rintro e v6 ⟨rfl, x6⟩; obtain ⟨c6, f6⟩ := x6.rules; have z6 := x6.size; have k6_wr_heap_size_0 := c6 (wr.heap.size) 0 (by first | (simp; done) | (simp; omega) | omega); have q6_wr_heap_size_0 := f6 (wr.heap.size) 0 (by first | (simp; done) | (simp; omega) | omega); have k6_wr_heap_size_1 := c6 (wr.heap.size) 1 (by first | (simp; done) | (simp; omega) | omega); have q6_wr_heap_size_1 := f6 (wr.heap.size) 1 (by first | (simp; done) | (simp; omega) | omega); have z6_wr_heap_size : wr.heap.size < v6.heap.size := (by (try simp at z6); omega); (try simp at z6); clear c6 f6; simp [go_sem, *] at k6_wr_heap_size_0 q6_wr_heap_size_0 k6_wr_heap_size_1 q6_wr_heap_size_1; (try clear k5_wr_heap_size_0); (try clear q5_wr_heap_size_0); (try clear k5_wr_heap_size_1); (try clear q5_wr_heap_size_1)
            go_wp2_with (first | (go_at_call 35; refine (num2_any _ _).mono ?_; rintro e w' ⟨rfl, rfl⟩) | (go_at_call 36; refine (CK.out _).mono ?_; rintro e w' ⟨rfl, rfl⟩))
            go_roundw
            case rel => exact ⟨k + 1, by omega, by go_num, (by repeat (first | exact Ext.refl _ | apply Ext.drew | apply Ext.drewN | apply Ext.alloc | refine Ext.tr ?_ x1 | refine Ext.tr ?_ x2 | refine Ext.tr ?_ x3 | refine Ext.tr ?_ x4 | refine Ext.tr ?_ x5 | refine Ext.tr ?_ x6 | refine Ext.tr ?_ x7 | refine Ext.tr ?_ x8 | refine Ext.tr ?_ x9 | refine Ext.tr ?_ xa | refine Ext.tr ?_ xb | refine Ext.tr ?_ xc | refine Ext.tr ?_ xd | refine Ext.tr ?_ xe | refine Ext.tr ?_ xf | refine Ext.tr ?_ xg | refine Ext.tr ?_ hx | refine Ext.tr ?_ hext | (refine Ext.setCell ?_ (by first | (simp; done) | (simp; omega) | omega) _) | assumption))⟩
            case measure => simp [intOf]; omega
          · have p1 : wv (A + B) = A + B := wv_of g
            have p2' : we (A + B) = 0 := we_of g
            rw [p1, p2'] at E1 E2
            have wS : Wd (A + B) := gd_iff.1 g
            have e7 := fun v => Sub_any (A + B) B v wS ⟨wB1, wB2⟩
            rw [show A + B - B = A by omega, wv_of gA, we_of gA] at e7
            have E7 := Lib.hid e7
            clear p1 p2' G e7 wS
            have ck := fun v => check_any (A + B) v
            simp only [g, if_true] at ck
            have CK := Lib.hid ck
            clear ck
            go_wp2_with fail; refine (may2_any _ _).mono ?_; rintro e w' ⟨rfl, rfl⟩
            go_wp2_with fail; refine (may2_any _ _).mono ?_; rintro e w' ⟨rfl, rfl⟩
            go_wp2_with fail; refine (E1.out _).mono ?_; rintro e v1 ⟨rfl, x1⟩; obtain ⟨c1, f1⟩ := x1.rules; have z1 := x1.size; have k1_wr_heap_size_0 := c1 (wr.heap.size) 0 (by first | (simp; done) | (simp; omega) | omega); have q1_wr_heap_size_0 := f1 (wr.heap.size) 0 (by first | (simp; done) | (simp; omega) | omega); have k1_wr_heap_size_1 := c1 (wr.heap.size) 1 (by first | (simp; done) | (simp; omega) | omega); have q1_wr_heap_size_1 := f1 (wr.heap.size) 1 (by first | (simp; done) | (simp; omega) | omega); have z1_wr_heap_size : wr.heap.size < v1.heap.size := (by (try simp at z1); omega); (try simp at z1); clear c1 f1; simp [go_sem, *] at k1_wr_heap_size_0 q1_wr_heap_size_0 k1_wr_heap_size_1 q1_wr_heap_size_1
            go_wp2_with fail; refine (E2.out _).mono ?_; rintro e v2 ⟨rfl, x2⟩; obtain ⟨c2, f2⟩ := x2.rules; have z2 := x2.size; have k2_wr_heap_size_0 := c2 (wr.heap.size) 0 (by first | (simp; done) | (simp; omega) | omega); have q2_wr_heap_size_0 := f2 (wr.heap.size) 0 (by first | (simp; done) | (simp; omega) | omega); have k2_wr_heap_size_1 := c2 (wr.heap.size) 1 (by first | (simp; done) | (simp; omega) | omega); have q2_wr_heap_size_1 := f2 (wr.heap.size) 1 (by first | (simp; done) | (simp; omega) | omega); have z2_wr_heap_size : wr.heap.size < v2.heap.size := (by (try simp at z2); omega); (try simp at z2); clear c2 f2; simp [go_sem, *] at k2_wr_heap_size_0 q2_wr_heap_size_0 k2_wr_heap_size_1 q2_wr_heap_size_1; (try clear k1_wr_heap_size_0); (try clear q1_wr_heap_size_0); (try clear k1_wr_heap_size_1); (try clear q1_wr_heap_size_1)
            go_wp2_with fail; refine (E3.out _).mono ?_; rintro e v3 ⟨rfl, x3⟩; obtain ⟨c3, f3⟩ := x3.rules; have z3 := x3.size; have k3_wr_heap_size_0 := c3 (wr.heap.size) 0 (by first | (simp; done) | (simp; omega) | omega); have q3_wr_heap_size_0 := f3 (wr.heap.size) 0 (by first | (simp; done) | (simp; omega) | omega); have k3_wr_heap_size_1 := c3 (wr.heap.size) 1 (by first | (simp; done) | (simp; omega) | omega); have q3_wr_heap_size_1 := f3 (wr.heap.size) 1 (by first | (simp; done) | (simp; omega) | omega); have z3_wr_heap_size : wr.heap.size < v3.heap.size := (by (try simp at z3); omega); (try simp at z3); clear c3 f3; simp [go_sem, *] at k3_wr_heap_size_0 q3_wr_heap_size_0 k3_wr_heap_size_1 q3_wr_heap_size_1; (try clear k2_wr_heap_size_0); (try clear q2_wr_heap_size_0); (try clear k2_wr_heap_size_1); (try clear q2_wr_heap_size_1)
            go_wp2_with fail; refine (E4.out _).mono ?_; rintro e v4 ⟨rfl, x4⟩; obtain ⟨c4, f4⟩ := x4.rules; have z4 := x4.size; have k4_wr_heap_size_0 := c4 (wr.heap.size) 0 (by first | (simp; done) | (simp; omega) | omega); have q4_wr_heap_size_0 := f4 (wr.heap.size) 0 (by first | (simp; done) | (simp; omega) | omega); have k4_wr_heap_size_1 := c4 (wr.heap.size) 1 (by first | (simp; done) | (simp; omega) | omega); have q4_wr_heap_size_1 := f4 (wr.heap.size) 1 (by first | (simp; done) | (simp; omega) | omega); have z4_wr_heap_size : wr.heap.size < v4.heap.size := (by (try simp at z4); omega); (try simp at z4); clear c4 f4; simp [go_sem, *] at k4_wr_heap_size_0 q4_wr_heap_size_0 k4_wr_heap_size_1 q4_wr_heap_size_1; (try clear k3_wr_heap_size_0); (try clear q3_wr_heap_size_0); (try clear k3_wr_heap_size_1); (try clear q3_wr_heap_size_1)
            go_wp2_with (go_at_call 35; refine (num2_any _ _).mono ?_; rintro e w' ⟨rfl, rfl⟩)
            refine (E7.out _).mono ?_; rintro e v7 ⟨rfl, x7⟩; obtain ⟨c7, f7⟩ := x7.rules; have z7 := x7.size; have k7_wr_heap_size_0 := c7 (wr.heap.size) 0 (by first | (simp; done) | (simp; omega) | omega); have q7_wr_heap_size_0 := f7 (wr.heap.size) 0 (by first | (simp; done) | (simp; omega) | omega); have k7_wr_heap_size_1 := c7 (wr.heap.size) 1 (by first | (simp; done) | (simp; omega) | omega); have q7_wr_heap_size_1 := f7 (wr.heap.size) 1 (by first | (simp; done) | (simp; omega) | omega); have z7_wr_heap_size : wr.heap.size < v7.heap.size := (by (try simp at z7); omega); (try simp at z7); clear c7 f7; simp [go_sem, *] at k7_wr_heap_size_0 q7_wr_heap_size_0 k7_wr_heap_size_1 q7_wr_heap_size_1; (try clear k4_wr_heap_size_0); (try clear q4_wr_heap_size_0); (try clear k4_wr_heap_size_1); (try clear q4_wr_heap_size_1)
            go_wp2_with (go_at_call 35; refine (num2_any _ _).mono ?_; rintro e w' ⟨rfl, rfl⟩)
            refine (E5.out _).mono ?_; rintro e v5 ⟨rfl, x5⟩; obtain ⟨c5, f5⟩ := x5.rules; have z5 := x5.size; have k5_wr_heap_size_0 := c5 (wr.heap.size) 0 (by first | (simp; done) | (simp; omega) | omega); have q5_wr_heap_size_0 := f5 (wr.heap.size) 0 (by first | (simp; done) | (simp; omega) | omega); have k5_wr_heap_size_1 := c5 (wr.heap.size) 1 (by first | (simp; done) | (simp; omega) | omega); have q5_wr_heap_size_1 := f5 (wr.heap.size) 1 (by first | (simp; done) | (simp; omega) | omega); have z5_wr_heap_size : wr.heap.size < v5.heap.size := (by (try simp at z5); omega); (try simp at z5); clear c5 f5; simp [go_sem, *] at k5_wr_heap_size_0 q5_wr_heap_size_0 k5_wr_heap_size_1 q5_wr_heap_size_1; (try clear k7_wr_heap_size_0); (try clear q7_wr_heap_size_0); (try clear k7_wr_heap_size_1); (try clear q7_wr_heap_size_1)
            go_wp2_with fail; refine (E6.out _).mono ?_; rintro e v6 ⟨rfl, x6⟩; obtain ⟨c6, f6⟩ := x6.rules; have z6 := x6.size; have k6_wr_heap_size_0 := c6 (wr.heap.size) 0 (by first | (simp; done) | (simp; omega) | omega); have q6_wr_heap_size_0 := f6 (wr.heap.size) 0 (by first | (simp; done) | (simp; omega) | omega); have k6_wr_heap_size_1 := c6 (wr.heap.size) 1 (by first | (simp; done) | (simp; omega) | omega); have q6_wr_heap_size_1 := f6 (wr.heap.size) 1 (by first | (simp; done) | (simp; omega) | omega); have z6_wr_heap_size : wr.heap.size < v6.heap.size := (by (try simp at z6); omega); (try simp at z6); clear c6 f6; simp [go_sem, *] at k6_wr_heap_size_0 q6_wr_heap_size_0 k6_wr_heap_size_1 q6_wr_heap_size_1; (try clear k5_wr_heap_size_0); (try clear q5_wr_heap_size_0); (try clear k5_wr_heap_size_1); (try clear q5_wr_heap_size_1)
            go_wp2_with (first | (go_at_call 35; refine (num2_any _ _).mono ?_; rintro e w' ⟨rfl, rfl⟩) | (go_at_call 36; refine (CK.out _).mono ?_; rintro e w' ⟨rfl, rfl⟩))
            go_roundw
            case rel => exact ⟨k + 1, by omega, by go_num, (by repeat (first | exact Ext.refl _ | apply Ext.drew | apply Ext.drewN | apply Ext.alloc | refine Ext.tr ?_ x1 | refine Ext.tr ?_ x2 | refine Ext.tr ?_ x3 | refine Ext.tr ?_ x4 | refine Ext.tr ?_ x5 | refine Ext.tr ?_ x6 | refine Ext.tr ?_ x7 | refine Ext.tr ?_ x8 | refine Ext.tr ?_ x9 | refine Ext.tr ?_ xa | refine Ext.tr ?_ xb | refine Ext.tr ?_ xc | refine Ext.tr ?_ xd | refine Ext.tr ?_ xe | refine Ext.tr ?_ xf | refine Ext.tr ?_ xg | refine Ext.tr ?_ hx | refine Ext.tr ?_ hext | (refine Ext.setCell ?_ (by first | (simp; done) | (simp; omega) | omega) _) | assumption))⟩
            case measure => simp [intOf]; omega
    · have W := Lib.hid wakes2
      have hx : len ≤ k ∨ (k < len ∧ 30 ≤ k) := by omega
      clear hlt
      rcases hx with h | ⟨h1, h2⟩
      · go_wp2_with fail; refine (W.out _).mono ?_; rintro e v1 ⟨rfl, x1⟩; obtain ⟨c1, f1⟩ := x1.rules; have z1 := x1.size
        go_wp2
        go_ret
        exact ⟨rfl, (by repeat (first | exact Ext.refl _ | apply Ext.drew | apply Ext.drewN | apply Ext.alloc | refine Ext.tr ?_ x1 | refine Ext.tr ?_ x2 | refine Ext.tr ?_ x3 | refine Ext.tr ?_ x4 | refine Ext.tr ?_ x5 | refine Ext.tr ?_ x6 | refine Ext.tr ?_ x7 | refine Ext.tr ?_ x8 | refine Ext.tr ?_ x9 | refine Ext.tr ?_ xa | refine Ext.tr ?_ xb | refine Ext.tr ?_ xc | refine Ext.tr ?_ xd | refine Ext.tr ?_ xe | refine Ext.tr ?_ xf | refine Ext.tr ?_ xg | refine Ext.tr ?_ hx | refine Ext.tr ?_ hext | (refine Ext.setCell ?_ (by first | (simp; done) | (simp; omega) | omega) _) | assumption))⟩
      · go_wp2_with fail; refine (W.out _).mono ?_; rintro e v1 ⟨rfl, x1⟩; obtain ⟨c1, f1⟩ := x1.rules; have z1 := x1.size
        go_wp2
        go_ret
        exact ⟨rfl, (by repeat (first | exact Ext.refl _ | apply Ext.drew | apply Ext.drewN | apply Ext.alloc | refine Ext.tr ?_ x1 | refine Ext.tr ?_ x2 | refine Ext.tr ?_ x3 | refine Ext.tr ?_ x4 | refine Ext.tr ?_ x5 | refine Ext.tr ?_ x6 | refine Ext.tr ?_ x7 | refine Ext.tr ?_ x8 | refine Ext.tr ?_ x9 | refine Ext.tr ?_ xa | refine Ext.tr ?_ xb | refine Ext.tr ?_ xc | refine Ext.tr ?_ xd | refine Ext.tr ?_ xe | refine Ext.tr ?_ xf | refine Ext.tr ?_ xg | refine Ext.tr ?_ hx | refine Ext.tr ?_ hext | (refine Ext.setCell ?_ (by first | (simp; done) | (simp; omega) | omega) _) | assumption))⟩
theorem sums_zero (a : Option Addr) (cap : Nat) (w : World) :
    Calls Try.prog 6 #[.slice a 0 cap] w fun e w' => e = .returned (.bool true) ∧ Ext w w' := by
  have W := Lib.hid wakes2
  go_enter Try.func6, Try.ntmps6
  go_wp2_with fail
  refine wp_loop_rounds 1 ?_
  rw [rounds_succ]
  go_wp2_with fail; refine (W.out _).mono ?_; rintro e v1 ⟨rfl, x1⟩; obtain ⟨c1, f1⟩ := x1.rules; have z1 := x1.size
  go_wp2
  go_ret
  exact ⟨rfl, (by repeat (first | exact Ext.refl _ | apply Ext.drew | apply Ext.drewN | apply Ext.alloc | refine Ext.tr ?_ x1 | refine Ext.tr ?_ x2 | refine Ext.tr ?_ x3 | refine Ext.tr ?_ x4 | refine Ext.tr ?_ x5 | refine Ext.tr ?_ x6 | refine Ext.tr ?_ x7 | refine Ext.tr ?_ x8 | refine Ext.tr ?_ x9 | refine Ext.tr ?_ xa | refine Ext.tr ?_ xb | refine Ext.tr ?_ xc | refine Ext.tr ?_ xd | refine Ext.tr ?_ xe | refine Ext.tr ?_ xf | refine Ext.tr ?_ xg | refine Ext.tr ?_ hx | refine Ext.tr ?_ hext | (refine Ext.setCell ?_ (by first | (simp; done) | (simp; omega) | omega) _) | assumption))⟩
set_option maxRecDepth 100000 in
theorem sums_any {H : Type} {enc : TypeId × Value → H} {w : World} {base : Nat} {v : Value} {d : DataW H} {p : List MemPlace}
    (hv : Value.okWide Try.prog w .any base 61 v) (h : DataW.Trod enc Try.prog w 0 (fun _ => true) true 61 v d p) :
    Calls Try.prog 6 #[v] w fun e w' => e = .returned (.bool true) ∧ Ext w w' := by
  rcases twos_open hv h with ⟨a, cap, rfl⟩ | ⟨b, o, len, cap, rfl, _, hl, hT⟩
  · exact sums_zero a cap w
  · exact sums_walk b o len cap w hl hT
end Go.Proofs.Ytielcbpjnjdlmaa
