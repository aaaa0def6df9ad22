/- RootExact: the walk. -/
import Derived.Test.YtielcbpjnjdlmaaPowers
import Derived.Test.YtielcbpjnjdlmaaRHalf
namespace Go.Proofs.Ytielcbpjnjdlmaa
open Go.RowKit
theorem mayF3_any (f : Int) (w : World) :
    Calls Try.prog 63 #[.int .i64 f] w fun e w' => e = .returned (.bool (gdF f)) ∧ w = w' := by
  by_cases h1 : 8 ≤ f
  · by_cases h2 : f ≤ 32
    · have g : gdF f = true := gdF_iff.2 ⟨h1, h2⟩
      rw [g]
      clear g
      go_enter Try.func63, Try.ntmps63
      go_wp2
      go_ret
      exact ⟨rfl, rfl⟩
    · have g : gdF f = false := by simp [gdF]; omega
      rw [g]
      clear g
      go_enter Try.func63, Try.ntmps63
      go_wp2
      go_ret
      exact ⟨rfl, rfl⟩
  · have g : gdF f = false := by simp [gdF]; omega
    rw [g]
    clear g
    go_enter Try.func63, Try.ntmps63
    go_wp2
    go_ret
    exact ⟨rfl, rfl⟩
set_option maxHeartbeats 4000000 in
set_option maxRecDepth 100000 in
theorem rexact_walk (b o len cap : Nat) (w : World) (_hl : len ≤ 9223372036854775807) (hT : OnesAt w b o len) :
    Calls Try.prog 12 #[.slice (some ⟨b, o, none⟩) len cap] w fun e w' => e = .returned (.bool true) ∧ Ext w w' := by
  have HT := Lib.hid hT
  clear hT
  go_enter Try.func12, Try.ntmps12
  go_wp2_with fail
  go_loopw [3] (fun i wr => ∃ k : Nat, k ≤ len ∧ i = .int .i64 k ∧ Ext w wr) (fun i _ => len - (intOf i).toNat)
  case atStart => exact ⟨0, Nat.zero_le _, rfl, Ext.refl _⟩
  case round =>
    obtain ⟨k, hk, rfl, hext⟩ := hrel
    by_cases hlt : k < len ∧ k < 25
    · obtain ⟨h1, h2⟩ := hlt
      obtain ⟨A, F, t0, hA, hF⟩ := HT.out k h1
      obtain ⟨d0, d1⟩ := t0.ext hext
      clear t0
      cases gA : gd A
      · have B1 := Lib.hid (fun v => sqrt_bad A F v (by rw [gA]; rfl))
        have B2 := Lib.hid (fun v => rsqrt_bad A F v (by rw [gA]; rfl))
        go_wp2_with (first | (go_at_call 37; refine (may2_any _ _).mono ?_; rintro e w' ⟨rfl, rfl⟩) | (go_at_call 63; refine (mayF3_any _ _).mono ?_; rintro e w' ⟨rfl, rfl⟩) | (go_at_call 73; refine (B1.out _).mono ?_; rintro e w' ⟨rfl, rfl⟩) | (go_at_call 76; refine (B2.out _).mono ?_; rintro e w' ⟨rfl, rfl⟩) | (go_at_call 74; refine (num3_any _ _).mono ?_; rintro e w' ⟨rfl, rfl⟩))
        go_roundw
        case rel => exact ⟨k + 1, by omega, by go_num, (by repeat (first | with_reducible exact Ext.refl _ | with_reducible apply Ext.drew | with_reducible apply Ext.drewN | with_reducible apply Ext.alloc | ((with_reducible refine Ext.setCell ?_ ?_ _); rotate_left; focus (first | (simp; done) | (simp; omega) | omega)) | with_reducible refine Ext.tr ?_ x1 | with_reducible refine Ext.tr ?_ x2 | with_reducible refine Ext.tr ?_ x3 | with_reducible refine Ext.tr ?_ x4 | with_reducible refine Ext.tr ?_ hx | with_reducible refine Ext.tr ?_ hext | with_reducible assumption))⟩
        case measure => simp [intOf]; omega
      · cases gF : gdF F
        · have B1 := Lib.hid (fun v => sqrt_bad A F v (by rw [gA, gF]; rfl))
          have B2 := Lib.hid (fun v => rsqrt_bad A F v (by rw [gA, gF]; rfl))
          go_wp2_with (first | (go_at_call 37; refine (may2_any _ _).mono ?_; rintro e w' ⟨rfl, rfl⟩) | (go_at_call 63; refine (mayF3_any _ _).mono ?_; rintro e w' ⟨rfl, rfl⟩) | (go_at_call 73; refine (B1.out _).mono ?_; rintro e w' ⟨rfl, rfl⟩) | (go_at_call 76; refine (B2.out _).mono ?_; rintro e w' ⟨rfl, rfl⟩) | (go_at_call 74; refine (num3_any _ _).mono ?_; rintro e w' ⟨rfl, rfl⟩))
          go_roundw
          case rel => exact ⟨k + 1, by omega, by go_num, (by repeat (first | with_reducible exact Ext.refl _ | with_reducible apply Ext.drew | with_reducible apply Ext.drewN | with_reducible apply Ext.alloc | ((with_reducible refine Ext.setCell ?_ ?_ _); rotate_left; focus (first | (simp; done) | (simp; omega) | omega)) | with_reducible refine Ext.tr ?_ x1 | with_reducible refine Ext.tr ?_ x2 | with_reducible refine Ext.tr ?_ x3 | with_reducible refine Ext.tr ?_ x4 | with_reducible refine Ext.tr ?_ hx | with_reducible refine Ext.tr ?_ hext | with_reducible assumption))⟩
          case measure => simp [intOf]; omega
        · rcases Int.lt_or_le A 0 with a0 | a0
          · have la : decide (A < 0) = true := by simp; omega
            have B1 := Lib.hid (fun v => sqrt_bad A F v (by rw [gA, gF]; simp; omega))
            have B2 := Lib.hid (fun v => rsqrt_bad A F v (by rw [gA, gF]; simp; omega))
            go_wp2_with (first | (go_at_call 37; refine (may2_any _ _).mono ?_; rintro e w' ⟨rfl, rfl⟩) | (go_at_call 63; refine (mayF3_any _ _).mono ?_; rintro e w' ⟨rfl, rfl⟩) | (go_at_call 73; refine (B1.out _).mono ?_; rintro e w' ⟨rfl, rfl⟩) | (go_at_call 76; refine (B2.out _).mono ?_; rintro e w' ⟨rfl, rfl⟩) | (go_at_call 74; refine (num3_any _ _).mono ?_; rintro e w' ⟨rfl, rfl⟩))
            go_roundw
            case rel => exact ⟨k + 1, by omega, by go_num, (by repeat (first | with_reducible exact Ext.refl _ | with_reducible apply Ext.drew | with_reducible apply Ext.drewN | with_reducible apply Ext.alloc | ((with_reducible refine Ext.setCell ?_ ?_ _); rotate_left; focus (first | (simp; done) | (simp; omega) | omega)) | with_reducible refine Ext.tr ?_ x1 | with_reducible refine Ext.tr ?_ x2 | with_reducible refine Ext.tr ?_ x3 | with_reducible refine Ext.tr ?_ x4 | with_reducible refine Ext.tr ?_ hx | with_reducible refine Ext.tr ?_ hext | with_reducible assumption))⟩
            case measure => simp [intOf]; omega
          · have la : decide (A < 0) = false := by simp; omega
            have R1 := Lib.hid (fun v => RSqrt_ref v gA gF a0)
            have S1 := Lib.hid (fun v => sqrt_ok A F v gA gF a0)
            rcases Int.lt_or_eq_of_le a0 with ap | ap
            · have R2 := Lib.hid (fun v => RRsqrt_ref v gA gF ap)
              have S2 := Lib.hid (fun v => rsqrt_ok A F v gA gF ap)
              have nz : (A == 0) = false := by simp; omega
              have AP := Lib.hid ap
              clear a0 ap
              go_wp2_with (first | (go_at_call 37; refine (may2_any _ _).mono ?_; rintro e w' ⟨rfl, rfl⟩) | (go_at_call 63; refine (mayF3_any _ _).mono ?_; rintro e w' ⟨rfl, rfl⟩))
              refine (R1.out _).mono ?_; rintro e v1 ⟨r, rfl, x1, nr⟩; obtain ⟨c1, f1⟩ := x1.rules; have z1 := x1.size; have k1_wr_heap_size_0 := c1 (wr.heap.size) 0 (by first | (simp; done) | (simp; omega) | omega); have q1_wr_heap_size_0 := f1 (wr.heap.size) 0 (by first | (simp; done) | (simp; omega) | omega); have k1_wr_heap_size_1 := c1 (wr.heap.size) 1 (by first | (simp; done) | (simp; omega) | omega); have q1_wr_heap_size_1 := f1 (wr.heap.size) 1 (by first | (simp; done) | (simp; omega) | omega); have z1_wr_heap_size : wr.heap.size < v1.heap.size := (by (try simp at z1); omega); (try simp at z1); clear c1 f1; simp [go_sem, *] at k1_wr_heap_size_0 q1_wr_heap_size_0 k1_wr_heap_size_1 q1_wr_heap_size_1
              have NR := Lib.hid nr
              clear nr R1
              go_wp2_with fail; refine (R2.out _).mono ?_; rintro e v2 ⟨q, rfl, x2, nq⟩; obtain ⟨c2, f2⟩ := x2.rules; have z2 := x2.size; have k2_wr_heap_size_0 := c2 (wr.heap.size) 0 (by first | (simp; done) | (simp; omega) | omega); have q2_wr_heap_size_0 := f2 (wr.heap.size) 0 (by first | (simp; done) | (simp; omega) | omega); have k2_wr_heap_size_1 := c2 (wr.heap.size) 1 (by first | (simp; done) | (simp; omega) | omega); have q2_wr_heap_size_1 := f2 (wr.heap.size) 1 (by first | (simp; done) | (simp; omega) | omega); have z2_wr_heap_size : wr.heap.size < v2.heap.size := (by (try simp at z2); omega); (try simp at z2); clear c2 f2; simp [go_sem, *] at k2_wr_heap_size_0 q2_wr_heap_size_0 k2_wr_heap_size_1 q2_wr_heap_size_1
              have NQ := Lib.hid nq
              clear nq R2
              go_wp2_with fail; refine (S1.out _).mono ?_; rintro e v3 ⟨r', rfl, x3, nr', gr⟩; obtain ⟨c3, f3⟩ := x3.rules; have z3 := x3.size; have k3_wr_heap_size_0 := c3 (wr.heap.size) 0 (by first | (simp; done) | (simp; omega) | omega); have q3_wr_heap_size_0 := f3 (wr.heap.size) 0 (by first | (simp; done) | (simp; omega) | omega); have k3_wr_heap_size_1 := c3 (wr.heap.size) 1 (by first | (simp; done) | (simp; omega) | omega); have q3_wr_heap_size_1 := f3 (wr.heap.size) 1 (by first | (simp; done) | (simp; omega) | omega); have z3_wr_heap_size : wr.heap.size < v3.heap.size := (by (try simp at z3); omega); (try simp at z3); clear c3 f3; simp [go_sem, *] at k3_wr_heap_size_0 q3_wr_heap_size_0 k3_wr_heap_size_1 q3_wr_heap_size_1
              obtain rfl := near_root_only (by omega) nr' NR.out
              clear nr' NR S1
              go_wp2_with fail; refine (S2.out _).mono ?_; rintro e v4 ⟨q', rfl, x4, nq'⟩; obtain ⟨c4, f4⟩ := x4.rules; have z4 := x4.size; have k4_wr_heap_size_0 := c4 (wr.heap.size) 0 (by first | (simp; done) | (simp; omega) | omega); have q4_wr_heap_size_0 := f4 (wr.heap.size) 0 (by first | (simp; done) | (simp; omega) | omega); have k4_wr_heap_size_1 := c4 (wr.heap.size) 1 (by first | (simp; done) | (simp; omega) | omega); have q4_wr_heap_size_1 := f4 (wr.heap.size) 1 (by first | (simp; done) | (simp; omega) | omega); have z4_wr_heap_size : wr.heap.size < v4.heap.size := (by (try simp at z4); omega); (try simp at z4); clear c4 f4; simp [go_sem, *] at k4_wr_heap_size_0 q4_wr_heap_size_0 k4_wr_heap_size_1 q4_wr_heap_size_1
              obtain rfl := near_root_only AP.out nq' NQ.out
              have e1 : wv r' = r' := wv_of gr
              have e2 : we r' = 0 := we_of gr
              clear nq' NQ S2 gr
              go_wp2_with (go_at_call 74; refine (num3_any _ _).mono ?_; rintro e w' ⟨rfl, rfl⟩)
              go_roundw
              case rel => exact ⟨k + 1, by omega, by go_num, (by repeat (first | with_reducible exact Ext.refl _ | with_reducible apply Ext.drew | with_reducible apply Ext.drewN | with_reducible apply Ext.alloc | ((with_reducible refine Ext.setCell ?_ ?_ _); rotate_left; focus (first | (simp; done) | (simp; omega) | omega)) | with_reducible refine Ext.tr ?_ x1 | with_reducible refine Ext.tr ?_ x2 | with_reducible refine Ext.tr ?_ x3 | with_reducible refine Ext.tr ?_ x4 | with_reducible refine Ext.tr ?_ hx | with_reducible refine Ext.tr ?_ hext | with_reducible assumption))⟩
              case measure => simp [intOf]; omega
            · subst ap
              have S2 := Lib.hid (fun v => rsqrt_zero F v gF)
              go_wp2_with (first | (go_at_call 37; refine (may2_any _ _).mono ?_; rintro e w' ⟨rfl, rfl⟩) | (go_at_call 63; refine (mayF3_any _ _).mono ?_; rintro e w' ⟨rfl, rfl⟩))
              refine (R1.out _).mono ?_; rintro e v1 ⟨r, rfl, x1, nr⟩; obtain ⟨c1, f1⟩ := x1.rules; have z1 := x1.size; have k1_wr_heap_size_0 := c1 (wr.heap.size) 0 (by first | (simp; done) | (simp; omega) | omega); have q1_wr_heap_size_0 := f1 (wr.heap.size) 0 (by first | (simp; done) | (simp; omega) | omega); have k1_wr_heap_size_1 := c1 (wr.heap.size) 1 (by first | (simp; done) | (simp; omega) | omega); have q1_wr_heap_size_1 := f1 (wr.heap.size) 1 (by first | (simp; done) | (simp; omega) | omega); have z1_wr_heap_size : wr.heap.size < v1.heap.size := (by (try simp at z1); omega); (try simp at z1); clear c1 f1; simp [go_sem, *] at k1_wr_heap_size_0 q1_wr_heap_size_0 k1_wr_heap_size_1 q1_wr_heap_size_1
              have NR := Lib.hid nr
              clear nr R1
              go_wp2_with fail; refine (S1.out _).mono ?_; rintro e v3 ⟨r', rfl, x3, nr', gr⟩; obtain ⟨c3, f3⟩ := x3.rules; have z3 := x3.size; have k3_wr_heap_size_0 := c3 (wr.heap.size) 0 (by first | (simp; done) | (simp; omega) | omega); have q3_wr_heap_size_0 := f3 (wr.heap.size) 0 (by first | (simp; done) | (simp; omega) | omega); have k3_wr_heap_size_1 := c3 (wr.heap.size) 1 (by first | (simp; done) | (simp; omega) | omega); have q3_wr_heap_size_1 := f3 (wr.heap.size) 1 (by first | (simp; done) | (simp; omega) | omega); have z3_wr_heap_size : wr.heap.size < v3.heap.size := (by (try simp at z3); omega); (try simp at z3); clear c3 f3; simp [go_sem, *] at k3_wr_heap_size_0 q3_wr_heap_size_0 k3_wr_heap_size_1 q3_wr_heap_size_1
              obtain rfl := near_root_only (by omega) nr' NR.out
              have e1 : wv r' = r' := wv_of gr
              have e2 : we r' = 0 := we_of gr
              clear nr' NR S1 gr
              go_wp2_with (first | (go_at_call 76; refine (S2.out _).mono ?_; rintro e w' ⟨rfl, rfl⟩) | (go_at_call 74; refine (num3_any _ _).mono ?_; rintro e w' ⟨rfl, rfl⟩))
              go_roundw
              case rel => exact ⟨k + 1, by omega, by go_num, (by repeat (first | with_reducible exact Ext.refl _ | with_reducible apply Ext.drew | with_reducible apply Ext.drewN | with_reducible apply Ext.alloc | ((with_reducible refine Ext.setCell ?_ ?_ _); rotate_left; focus (first | (simp; done) | (simp; omega) | omega)) | with_reducible refine Ext.tr ?_ x1 | with_reducible refine Ext.tr ?_ x2 | with_reducible refine Ext.tr ?_ x3 | with_reducible refine Ext.tr ?_ x4 | with_reducible refine Ext.tr ?_ hx | with_reducible refine Ext.tr ?_ hext | with_reducible assumption))⟩
              case measure => simp [intOf]; omega
    · have W := Lib.hid wakes3
      have hx : len ≤ k ∨ (k < len ∧ 25 ≤ k) := by omega
      clear hlt
      rcases hx with h | ⟨h1, h2⟩
      · go_wp2_with fail; refine (W.out _).mono ?_; rintro e v1 ⟨rfl, x1⟩; obtain ⟨c1, f1⟩ := x1.rules; have z1 := x1.size
        go_wp2
        go_ret
        exact ⟨rfl, (by repeat (first | with_reducible exact Ext.refl _ | with_reducible apply Ext.drew | with_reducible apply Ext.drewN | with_reducible apply Ext.alloc | ((with_reducible refine Ext.setCell ?_ ?_ _); rotate_left; focus (first | (simp; done) | (simp; omega) | omega)) | with_reducible refine Ext.tr ?_ x1 | with_reducible refine Ext.tr ?_ x2 | with_reducible refine Ext.tr ?_ x3 | with_reducible refine Ext.tr ?_ x4 | with_reducible refine Ext.tr ?_ hx | with_reducible refine Ext.tr ?_ hext | with_reducible assumption))⟩
      · go_wp2_with fail; refine (W.out _).mono ?_; rintro e v1 ⟨rfl, x1⟩; obtain ⟨c1, f1⟩ := x1.rules; have z1 := x1.size
        go_wp2
        go_ret
        exact ⟨rfl, (by repeat (first | with_reducible exact Ext.refl _ | with_reducible apply Ext.drew | with_reducible apply Ext.drewN | with_reducible apply Ext.alloc | ((with_reducible refine Ext.setCell ?_ ?_ _); rotate_left; focus (first | (simp; done) | (simp; omega) | omega)) | with_reducible refine Ext.tr ?_ x1 | with_reducible refine Ext.tr ?_ x2 | with_reducible refine Ext.tr ?_ x3 | with_reducible refine Ext.tr ?_ x4 | with_reducible refine Ext.tr ?_ hx | with_reducible refine Ext.tr ?_ hext | with_reducible assumption))⟩
set_option maxRecDepth 100000 in
theorem rexact_zero (a : Option Addr) (cap : Nat) (w : World) :
    Calls Try.prog 12 #[.slice a 0 cap] w fun e w' => e = .returned (.bool true) ∧ Ext w w' := by
  have W := Lib.hid wakes3
  go_enter Try.func12, Try.ntmps12
  go_wp2_with fail
  refine wp_loop_rounds 1 ?_
  rw [rounds_succ]
  go_wp2_with fail; refine (W.out _).mono ?_; rintro e v1 ⟨rfl, x1⟩; obtain ⟨c1, f1⟩ := x1.rules; have z1 := x1.size
  go_wp2
  go_ret
  exact ⟨rfl, (by repeat (first | with_reducible exact Ext.refl _ | with_reducible apply Ext.drew | with_reducible apply Ext.drewN | with_reducible apply Ext.alloc | ((with_reducible refine Ext.setCell ?_ ?_ _); rotate_left; focus (first | (simp; done) | (simp; omega) | omega)) | with_reducible refine Ext.tr ?_ x1 | with_reducible refine Ext.tr ?_ x2 | with_reducible refine Ext.tr ?_ x3 | with_reducible refine Ext.tr ?_ x4 | with_reducible refine Ext.tr ?_ hx | with_reducible refine Ext.tr ?_ hext | with_reducible assumption))⟩
set_option maxRecDepth 100000 in
theorem rexact_any {H : Type} {enc : TypeId × Value → H} {w : World} {base : Nat} {v : Value} {d : DataW H} {p : List MemPlace}
    (hv : Value.okWide Try.prog w .any base 108 v) (h : DataW.Trod enc Try.prog w 0 (fun _ => true) true 108 v d p) :
    Calls Try.prog 12 #[v] w fun e w' => e = .returned (.bool true) ∧ Ext w w' := by
  rcases ones_open hv h with ⟨a, cap, rfl⟩ | ⟨b, o, len, cap, rfl, _, hl, hT⟩
  · exact rexact_zero a cap w
  · exact rexact_walk b o len cap w hl hT
end Go.Proofs.Ytielcbpjnjdlmaa
