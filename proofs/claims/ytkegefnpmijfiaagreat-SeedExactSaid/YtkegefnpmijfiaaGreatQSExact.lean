/- SeedExact: the walk. -/
import Derived.Test.YtkegefnpmijfiaaGreatQSeA
import Derived.Test.YtkegefnpmijfiaaGreatQDs
import Derived.BigRegion
import Derived.Deep.DeepCutAuto
namespace Go.Proofs.YtkegefnpmijfiaaGreat
open Go.RowKit
attribute [local go_sem ↓] Go.wp_at_zero Go.wp_at_succ
section
variable {w : World} {b t r : Nat} {ty : TypeId} {cs : Array Value}
theorem far7 (h : Blk w b ty cs) (h1 : b ≠ t) (h2 : b ≠ r) (v0 v1 v2 v3 v4 v5 v6 : Value) : Blk (((((((w.setCell ⟨t, 0, none⟩ v0).setCell ⟨t, 1, none⟩ v1).setCell ⟨r, 0, none⟩ v2).setCell ⟨r, 1, none⟩ v3).setCell ⟨r, 2, none⟩ v4).setCell ⟨r, 3, none⟩ v5).setCell ⟨r, 4, none⟩ v6) b ty cs :=
  ((((((h.far (p := ⟨t, 0, none⟩) h1 v0).far (p := ⟨t, 1, none⟩) h1 v1).far (p := ⟨r, 0, none⟩) h2 v2).far (p := ⟨r, 1, none⟩) h2 v3).far (p := ⟨r, 2, none⟩) h2 v4).far (p := ⟨r, 3, none⟩) h2 v5).far (p := ⟨r, 4, none⟩) h2 v6
theorem far5 (h : Blk w b ty cs) (h2 : b ≠ r) (v2 v3 v4 v5 v6 : Value) : Blk (((((w.setCell ⟨r, 0, none⟩ v2).setCell ⟨r, 1, none⟩ v3).setCell ⟨r, 2, none⟩ v4).setCell ⟨r, 3, none⟩ v5).setCell ⟨r, 4, none⟩ v6) b ty cs :=
  ((((h.far (p := ⟨r, 0, none⟩) h2 v2).far (p := ⟨r, 1, none⟩) h2 v3).far (p := ⟨r, 2, none⟩) h2 v4).far (p := ⟨r, 3, none⟩) h2 v5).far (p := ⟨r, 4, none⟩) h2 v6
theorem put7t {u0 u1 : Value} (h : Blk w t ty #[u0, u1]) (h1 : t ≠ r) (v0 v1 v2 v3 v4 v5 v6 : Value) : Blk (((((((w.setCell ⟨t, 0, none⟩ v0).setCell ⟨t, 1, none⟩ v1).setCell ⟨r, 0, none⟩ v2).setCell ⟨r, 1, none⟩ v3).setCell ⟨r, 2, none⟩ v4).setCell ⟨r, 3, none⟩ v5).setCell ⟨r, 4, none⟩ v6) t ty #[v0, v1] :=
  far5 ((h.set_ 0 v0).set_ 1 v1) h1 v2 v3 v4 v5 v6
theorem put5 {u0 u1 u2 u3 u4 : Value} (h : Blk w r ty #[u0, u1, u2, u3, u4]) (v2 v3 v4 v5 v6 : Value) : Blk (((((w.setCell ⟨r, 0, none⟩ v2).setCell ⟨r, 1, none⟩ v3).setCell ⟨r, 2, none⟩ v4).setCell ⟨r, 3, none⟩ v5).setCell ⟨r, 4, none⟩ v6) r ty #[v2, v3, v4, v5, v6] :=
  ((((h.set_ 0 v2).set_ 1 v3).set_ 2 v4).set_ 3 v5).set_ 4 v6
theorem put7r {u0 u1 u2 u3 u4 : Value} (h : Blk w r ty #[u0, u1, u2, u3, u4]) (h1 : r ≠ t) (v0 v1 v2 v3 v4 v5 v6 : Value) : Blk (((((((w.setCell ⟨t, 0, none⟩ v0).setCell ⟨t, 1, none⟩ v1).setCell ⟨r, 0, none⟩ v2).setCell ⟨r, 1, none⟩ v3).setCell ⟨r, 2, none⟩ v4).setCell ⟨r, 3, none⟩ v5).setCell ⟨r, 4, none⟩ v6) r ty #[v2, v3, v4, v5, v6] :=
  put5 ((h.far (p := ⟨t, 0, none⟩) h1 v0).far (p := ⟨t, 1, none⟩) h1 v1) v2 v3 v4 v5 v6
theorem ext7 {u : World} (x : Ext u w) (h1 : u.heap.size ≤ t) (h2 : u.heap.size ≤ r) (v0 v1 v2 v3 v4 v5 v6 : Value) : Ext u (((((((w.setCell ⟨t, 0, none⟩ v0).setCell ⟨t, 1, none⟩ v1).setCell ⟨r, 0, none⟩ v2).setCell ⟨r, 1, none⟩ v3).setCell ⟨r, 2, none⟩ v4).setCell ⟨r, 3, none⟩ v5).setCell ⟨r, 4, none⟩ v6) :=
  own_ext5 ((x.setCell (p := ⟨t, 0, none⟩) h1 v0).setCell (p := ⟨t, 1, none⟩) h1 v1) h2 v2 v3 v4 v5 v6
theorem OwnT.set7 {base : Nat} {s d : Value} {xs ds : List Int} (h : OwnT base w s d xs ds) (h1 : t < base) (h2 : r < base) (v0 v1 v2 v3 v4 v5 v6 : Value) : OwnT base (((((((w.setCell ⟨t, 0, none⟩ v0).setCell ⟨t, 1, none⟩ v1).setCell ⟨r, 0, none⟩ v2).setCell ⟨r, 1, none⟩ v3).setCell ⟨r, 2, none⟩ v4).setCell ⟨r, 3, none⟩ v5).setCell ⟨r, 4, none⟩ v6) s d xs ds :=
  ((((((h.set h1).set h1).set h2).set h2).set h2).set h2).set h2
theorem OwnT.set5 {base : Nat} {s d : Value} {xs ds : List Int} (h : OwnT base w s d xs ds) (h2 : r < base) (v2 v3 v4 v5 v6 : Value) : OwnT base (((((w.setCell ⟨r, 0, none⟩ v2).setCell ⟨r, 1, none⟩ v3).setCell ⟨r, 2, none⟩ v4).setCell ⟨r, 3, none⟩ v5).setCell ⟨r, 4, none⟩ v6) s d xs ds :=
  ((((h.set h2).set h2).set h2).set h2).set h2
theorem TenNew.set7 {base : Nat} {s d : Value} {xs ds : List Int} (h : TenNew base w s d xs ds) (h1 : t < base) (h2 : r < base) (v0 v1 v2 v3 v4 v5 v6 : Value) : TenNew base (((((((w.setCell ⟨t, 0, none⟩ v0).setCell ⟨t, 1, none⟩ v1).setCell ⟨r, 0, none⟩ v2).setCell ⟨r, 1, none⟩ v3).setCell ⟨r, 2, none⟩ v4).setCell ⟨r, 3, none⟩ v5).setCell ⟨r, 4, none⟩ v6) s d xs ds :=
  ((((((h.set h1).set h1).set h2).set h2).set h2).set h2).set h2
theorem RandNew.set7 {base : Nat} {v : Value} {g : Gen} (h : RandNew base w v g) (h1 : t < base) (h2 : r < base) (v0 v1 v2 v3 v4 v5 v6 : Value) : RandNew base (((((((w.setCell ⟨t, 0, none⟩ v0).setCell ⟨t, 1, none⟩ v1).setCell ⟨r, 0, none⟩ v2).setCell ⟨r, 1, none⟩ v3).setCell ⟨r, 2, none⟩ v4).setCell ⟨r, 3, none⟩ v5).setCell ⟨r, 4, none⟩ v6) v g := by
  obtain ⟨a, c, rfl, h⟩ := h
  exact ⟨a, c, rfl, own_row5 (own_setF (own_setF h h1) h1) h2 ..⟩
theorem OwnT.filled {base Z n : Nat} {sa da : Option Addr} {sc dc : Nat} {xs : List Int} {z : Int} {g : Gen} (h : w.ownsRow base 3 1 (.slice sa xs.length sc) xs.length (xs.map (Value.int .i64)) ∧ w.ownsRow base 2 1 (.slice da n dc) n ((fillG z n g).1.map (Value.int .i64))) (hZ : Z ≤ base) : OwnT Z w (.slice sa xs.length sc) (.slice da n dc) (wantS true xs) (wantD true z n g) :=
  ⟨own_base h.1 hZ, by show World.ownsRow _ _ _ _ _ (fillG z n g).1.length _; rw [fillG_len]; exact own_base h.2 hZ⟩
theorem shp_small {ss : List Int} {n : Nat} (h : shp ss = true) (hn : pr ss = n) : ss.length ≤ 100000 ∧ n ≤ 100000 := by
  have h3 := shp_dims h
  exact ⟨by have := h3.1.1; omega, by have := h3.2; omega⟩
/-- The law's own variables: two tensors, four generators. -/
structure SeSt (U W : World) (Z : Nat) (c10 c11 c14 c15 c16 c17 : Array Value) : Prop where
  x : Ext U W
  b10 : Blk W Z 26 c10
  b11 : Blk W (Z + 1) 26 c11
  b14 : Blk W (Z + 1 + 1) 62 c14
  b15 : Blk W (Z + 1 + 1 + 1) 62 c15
  b16 : Blk W (Z + 1 + 1 + 1 + 1) 62 c16
  b17 : Blk W (Z + 1 + 1 + 1 + 1 + 1) 62 c17
theorem SeSt.ext {U W W' : World} {Z : Nat} {c10 c11 c14 c15 c16 c17 : Array Value} (h : SeSt U W Z c10 c11 c14 c15 c16 c17) (x : Ext W W') : SeSt U W' Z c10 c11 c14 c15 c16 c17 :=
  ⟨h.x.tr x, h.b10.ext x, h.b11.ext x, h.b14.ext x, h.b15.ext x, h.b16.ext x, h.b17.ext x⟩
theorem SeSt.putX {U : World} {Z : Nat} {u0 u1 u2 u3 u4 u5 u6 : Value} {c11 c15 c16 c17 : Array Value} (h : SeSt U w Z #[u0, u1] c11 #[u2, u3, u4, u5, u6] c15 c16 c17) (hZ : U.heap.size = Z) (ht : t = Z) (hr : r = Z + 1 + 1) (v0 v1 v2 v3 v4 v5 v6 : Value) :
    SeSt U (((((((w.setCell ⟨t, 0, none⟩ v0).setCell ⟨t, 1, none⟩ v1).setCell ⟨r, 0, none⟩ v2).setCell ⟨r, 1, none⟩ v3).setCell ⟨r, 2, none⟩ v4).setCell ⟨r, 3, none⟩ v5).setCell ⟨r, 4, none⟩ v6) Z #[v0, v1] c11 #[v2, v3, v4, v5, v6] c15 c16 c17 := by
  subst ht; subst hr
  exact ⟨ext7 h.x (by omega) (by omega) .., put7t h.b10 (by omega) .., far7 h.b11 (by omega) (by omega) .., put7r h.b14 (by omega) .., far7 h.b15 (by omega) (by omega) .., far7 h.b16 (by omega) (by omega) .., far7 h.b17 (by omega) (by omega) ..⟩
theorem SeSt.putY {U : World} {Z : Nat} {u0 u1 u2 u3 u4 u5 u6 : Value} {c10 c14 c16 c17 : Array Value} (h : SeSt U w Z c10 #[u0, u1] c14 #[u2, u3, u4, u5, u6] c16 c17) (hZ : U.heap.size = Z) (ht : t = Z + 1) (hr : r = Z + 1 + 1 + 1) (v0 v1 v2 v3 v4 v5 v6 : Value) :
    SeSt U (((((((w.setCell ⟨t, 0, none⟩ v0).setCell ⟨t, 1, none⟩ v1).setCell ⟨r, 0, none⟩ v2).setCell ⟨r, 1, none⟩ v3).setCell ⟨r, 2, none⟩ v4).setCell ⟨r, 3, none⟩ v5).setCell ⟨r, 4, none⟩ v6) Z c10 #[v0, v1] c14 #[v2, v3, v4, v5, v6] c16 c17 := by
  subst ht; subst hr
  exact ⟨ext7 h.x (by omega) (by omega) .., far7 h.b10 (by omega) (by omega) .., put7t h.b11 (by omega) .., far7 h.b14 (by omega) (by omega) .., put7r h.b15 (by omega) .., far7 h.b16 (by omega) (by omega) .., far7 h.b17 (by omega) (by omega) ..⟩
theorem SeSt.putO {U : World} {Z : Nat} {u2 u3 u4 u5 u6 : Value} {c10 c11 c14 c15 c17 : Array Value} (h : SeSt U w Z c10 c11 c14 c15 #[u2, u3, u4, u5, u6] c17) (hZ : U.heap.size = Z) (hr : r = Z + 1 + 1 + 1 + 1) (v2 v3 v4 v5 v6 : Value) :
    SeSt U (((((w.setCell ⟨r, 0, none⟩ v2).setCell ⟨r, 1, none⟩ v3).setCell ⟨r, 2, none⟩ v4).setCell ⟨r, 3, none⟩ v5).setCell ⟨r, 4, none⟩ v6) Z c10 c11 c14 c15 #[v2, v3, v4, v5, v6] c17 := by
  subst hr
  exact ⟨own_ext5 h.x (by omega) .., far5 h.b10 (by omega) .., far5 h.b11 (by omega) .., far5 h.b14 (by omega) .., far5 h.b15 (by omega) .., put5 h.b16 .., far5 h.b17 (by omega) ..⟩
theorem SeSt.putM {U : World} {Z : Nat} {u2 u3 u4 u5 u6 : Value} {c10 c11 c14 c15 c16 : Array Value} (h : SeSt U w Z c10 c11 c14 c15 c16 #[u2, u3, u4, u5, u6]) (hZ : U.heap.size = Z) (hr : r = Z + 1 + 1 + 1 + 1 + 1) (v2 v3 v4 v5 v6 : Value) :
    SeSt U (((((w.setCell ⟨r, 0, none⟩ v2).setCell ⟨r, 1, none⟩ v3).setCell ⟨r, 2, none⟩ v4).setCell ⟨r, 3, none⟩ v5).setCell ⟨r, 4, none⟩ v6) Z c10 c11 c14 c15 c16 #[v2, v3, v4, v5, v6] := by
  subst hr
  exact ⟨own_ext5 h.x (by omega) .., far5 h.b10 (by omega) .., far5 h.b11 (by omega) .., far5 h.b14 (by omega) .., far5 h.b15 (by omega) .., far5 h.b16 (by omega) .., put5 h.b17 ..⟩
end
set_option maxHeartbeats 100000000 in
set_option maxRecDepth 100000 in
theorem sexact_walk (b o len cap : Nat) (w : World) (_hl : len ≤ 9223372036854775807) (hT : AsksS w b o len) :
    Calls Tryz.prog 6 #[.slice (some ⟨b, o, none⟩) len cap] w fun e w' => e = .returned (.bool true) ∧ Ext w w' := by
  have HT := Lib.hid hT
  clear hT
  go_enter Tryz.func6, Tryz.ntmps6
  go_wp2_with fail
  go_loopw [3] (fun i wr => ∃ k : Nat, k ≤ len ∧ i = .int .i64 k ∧ Ext w wr) (fun i _ => len - (intOf i).toNat)
  case atStart => exact ⟨0, Nat.zero_le _, rfl, Ext.refl _⟩
  case round =>
    obtain ⟨k, hk, rfl, hext⟩ := hrel
    obtain ⟨wo, rfl⟩ : ∃ wo : World, wo = wr := ⟨_, rfl⟩
    by_cases hlt : k < len ∧ k < 6
    · obtain ⟨h1, h2⟩ := hlt
      obtain ⟨g, a0, l0, sv, ss, In, Out, N, P, F, t0, hIn, hOut, hN, hP, hF, hsc, -⟩ := HT.out k h1
      obtain ⟨c0, c1, c2, c3, c4, c5, c6, c7, c8, c9, c10, rr, rr5⟩ := t0.ext hext
      have hR : RandAt wo (.agg #[.slice a0 g.script.length l0, .int .u64 (iv g.st.a), .int .u64 (iv g.st.b), .int .u64 (iv g.st.c), .int .u64 (iv g.st.d)]) g := ⟨a0, l0, rfl, rr⟩
      obtain ⟨_, _, hcs, hm9⟩ := rr.form'
      clear hcs rr t0
      have HS := Lib.hid rr5
      obtain ⟨sb, sc, rfl, -⟩ := rr5.form'
      clear rr5
      obtain ⟨m0, hm0⟩ : ∃ m0, g.script.length = m0 := ⟨_, rfl⟩
      rw [hm0] at hR c0 hm9
      generalize iv g.st.a = p0 at *
      generalize iv g.st.b = q0 at *
      generalize iv g.st.c = r0 at *
      generalize iv g.st.d = s0 at *
      have HR := Lib.hid hR
      have HSC := Lib.hid hsc
      obtain ⟨GG, hGG⟩ : ∃ x, goodG g = x := ⟨_, rfl⟩
      obtain ⟨SS, hSS⟩ : ∃ x, shp ss = x := ⟨_, rfl⟩
      obtain ⟨FI, hFI⟩ : ∃ x, fanB In = x := ⟨_, rfl⟩
      obtain ⟨FO, hFO⟩ : ∃ x, fanB Out = x := ⟨_, rfl⟩
      obtain ⟨FN, hFN⟩ : ∃ x, fanB N = x := ⟨_, rfl⟩
      obtain ⟨FF, hFF⟩ : ∃ x, gdF F = x := ⟨_, rfl⟩
      obtain ⟨PP, hPP⟩ : ∃ x, (decide (0 ≤ P) && decide (P ≤ 99)) = x := ⟨_, rfl⟩
      have HV := Lib.hid (fun u (x : Ext wo u) => heavy25_any (HS.out.ext x) a0 m0 l0 p0 q0 r0 s0 In Out N P F hm9)
      have MAY := Lib.hid (fun u (x : Ext wo u) => may_rand (hR.ext x))
      have SH6 := Lib.hid (fun u (x : Ext wo u) => may6_any (HS.out.ext x))
      have F1 := Lib.hid (fun u => fan25_any In u)
      have F2 := Lib.hid (fun u => fan25_any Out u)
      have F3 := Lib.hid (fun u => fan25_any N u)
      have MF := Lib.hid (fun u => mayF2_any F u)
      rw [hGG] at MAY
      rw [hSS] at SH6
      rw [hFI] at F1
      rw [hFO] at F2
      rw [hFN] at F3
      rw [hFF] at MF
      have EE := Lib.hid (And.intro hGG (And.intro hSS (And.intro hFI (And.intro hFO (And.intro hFN (And.intro hFF hPP))))))
      have HP := Lib.hid hPP
      have BP := Lib.hid (Blk.new wo 64 #[.slice a0 m0 l0, .int .u64 p0, .int .u64 q0, .int .u64 r0, .int .u64 s0, .slice sb ss.length sc, .int .i64 In, .int .i64 Out, .int .i64 N, .int .i64 P, .int .i64 F])
      clear hR hsc hm0 hIn hOut hN hP hF hGG hSS hFI hFO hFN hFF hPP
      go_wp2_with fail; refine (HV.out _ Ext.q).mono ?_; rintro e v1 ⟨⟨bh, rfl⟩, x1⟩; obtain ⟨c1, f1⟩ := x1.rules; have z1 := x1.size; have lq := fun o => c1 (wo.heap.size) o (by first | (simp; done) | (simp; omega) | omega); have mq := fun o => f1 (wo.heap.size) o (by first | (simp; done) | (simp; omega) | omega); have k1_wo_heap_size_0 := lq 0; have q1_wo_heap_size_0 := mq 0; have k1_wo_heap_size_1 := lq 1; have q1_wo_heap_size_1 := mq 1; have k1_wo_heap_size_2 := lq 2; have q1_wo_heap_size_2 := mq 2; have k1_wo_heap_size_3 := lq 3; have q1_wo_heap_size_3 := mq 3; have k1_wo_heap_size_4 := lq 4; have q1_wo_heap_size_4 := mq 4; have k1_wo_heap_size_5 := lq 5; have q1_wo_heap_size_5 := mq 5; have k1_wo_heap_size_6 := lq 6; have q1_wo_heap_size_6 := mq 6; have k1_wo_heap_size_7 := lq 7; have q1_wo_heap_size_7 := mq 7; have k1_wo_heap_size_8 := lq 8; have q1_wo_heap_size_8 := mq 8; have k1_wo_heap_size_9 := lq 9; have q1_wo_heap_size_9 := mq 9; have k1_wo_heap_size_10 := lq 10; have q1_wo_heap_size_10 := mq 10; clear lq mq; have z1_wo_heap_size : wo.heap.size < v1.heap.size := (by (try simp at z1); omega); (try simp at z1); clear c1 f1; simp [go_sem, *] at k1_wo_heap_size_0 q1_wo_heap_size_0 k1_wo_heap_size_1 q1_wo_heap_size_1 k1_wo_heap_size_2 q1_wo_heap_size_2 k1_wo_heap_size_3 q1_wo_heap_size_3 k1_wo_heap_size_4 q1_wo_heap_size_4 k1_wo_heap_size_5 q1_wo_heap_size_5 k1_wo_heap_size_6 q1_wo_heap_size_6 k1_wo_heap_size_7 q1_wo_heap_size_7 k1_wo_heap_size_8 q1_wo_heap_size_8 k1_wo_heap_size_9 q1_wo_heap_size_9 k1_wo_heap_size_10 q1_wo_heap_size_10
      have B1 := Lib.hid (BP.out.ext x1)
      dsimp only
      cases bh
      · clear HV BP
        go_wp2_with fail; refine (MAY.out _ Ext.q).mono ?_; rintro e v2 ⟨rfl, x2⟩; obtain ⟨c2, f2⟩ := x2.rules; have z2 := x2.size; have lq := fun o => c2 (wo.heap.size) o (by first | (simp; done) | (simp; omega) | omega); have mq := fun o => f2 (wo.heap.size) o (by first | (simp; done) | (simp; omega) | omega); have k2_wo_heap_size_0 := lq 0; have q2_wo_heap_size_0 := mq 0; have k2_wo_heap_size_1 := lq 1; have q2_wo_heap_size_1 := mq 1; have k2_wo_heap_size_2 := lq 2; have q2_wo_heap_size_2 := mq 2; have k2_wo_heap_size_3 := lq 3; have q2_wo_heap_size_3 := mq 3; have k2_wo_heap_size_4 := lq 4; have q2_wo_heap_size_4 := mq 4; have k2_wo_heap_size_5 := lq 5; have q2_wo_heap_size_5 := mq 5; have k2_wo_heap_size_6 := lq 6; have q2_wo_heap_size_6 := mq 6; have k2_wo_heap_size_7 := lq 7; have q2_wo_heap_size_7 := mq 7; have k2_wo_heap_size_8 := lq 8; have q2_wo_heap_size_8 := mq 8; have k2_wo_heap_size_9 := lq 9; have q2_wo_heap_size_9 := mq 9; have k2_wo_heap_size_10 := lq 10; have q2_wo_heap_size_10 := mq 10; clear lq mq; have z2_wo_heap_size : wo.heap.size < v2.heap.size := (by (try simp at z2); omega); (try simp at z2); clear c2 f2; simp [go_sem, *] at k2_wo_heap_size_0 q2_wo_heap_size_0 k2_wo_heap_size_1 q2_wo_heap_size_1 k2_wo_heap_size_2 q2_wo_heap_size_2 k2_wo_heap_size_3 q2_wo_heap_size_3 k2_wo_heap_size_4 q2_wo_heap_size_4 k2_wo_heap_size_5 q2_wo_heap_size_5 k2_wo_heap_size_6 q2_wo_heap_size_6 k2_wo_heap_size_7 q2_wo_heap_size_7 k2_wo_heap_size_8 q2_wo_heap_size_8 k2_wo_heap_size_9 q2_wo_heap_size_9 k2_wo_heap_size_10 q2_wo_heap_size_10
        have B2 := Lib.hid (B1.out.ext x2)
        have x12 : Ext wo v2 := Ext.q
        clear MAY B1 x1 x2 c0 c3 c4 c5 c6 c7 c8 c9 c10 k1_wo_heap_size_0 q1_wo_heap_size_0 k1_wo_heap_size_1 q1_wo_heap_size_1 k1_wo_heap_size_2 q1_wo_heap_size_2 k1_wo_heap_size_3 q1_wo_heap_size_3 k1_wo_heap_size_4 q1_wo_heap_size_4 k1_wo_heap_size_5 q1_wo_heap_size_5 k1_wo_heap_size_6 q1_wo_heap_size_6 k1_wo_heap_size_7 q1_wo_heap_size_7 k1_wo_heap_size_8 q1_wo_heap_size_8 k1_wo_heap_size_9 q1_wo_heap_size_9 k1_wo_heap_size_10 q1_wo_heap_size_10
        dsimp only
        obtain ⟨zr, hzr⟩ : ∃ z, er GG = z := ⟨_, rfl⟩
        have HZR := Lib.hid hzr
        clear hzr
        go_upto_if 41 with fail
        go_cut [5] from 22 to 41 (fun s5 wx => s5 = .int .i64 zr ∧ wx = v2)
        case first => as_aux_lemma =>
          cases GG
          · have hz : zr = 1 := by rw [← HZR.out]; rfl
            go_wp2_with fail
            go_meet
            exact ⟨by rw [hz], rfl⟩
          · have hz : zr = 0 := by rw [← HZR.out]; rfl
            go_wp2_with fail
            go_meet
            exact ⟨by rw [hz], rfl⟩
        case rest => as_aux_lemma =>
          obtain ⟨rfl, hwc⟩ := hcut
          subst wc
          obtain ⟨q1, hq1⟩ : ∃ q, (!(SS && FI && FF)) = q := ⟨_, rfl⟩
          have HQ1 := Lib.hid hq1
          clear hq1
          go_upto_region 11 with fail
          go_cut [61] from 46 to 61 (fun s61 wx => s61 = .bool q1 ∧ wx = v2)
          case first => as_aux_lemma =>
            cases SS
            · go_wp2_with fail; refine (SH6.out _ Ext.q).mono ?_; rintro e w' ⟨rfl, rfl⟩
              go_wp2_with fail
              go_meet
              exact ⟨by rw [← HQ1.out]; rfl, rfl⟩
            · go_wp2_with fail; refine (SH6.out _ Ext.q).mono ?_; rintro e w' ⟨rfl, rfl⟩
              cases FI
              · go_wp2_with fail; refine (F1.out _).mono ?_; rintro e w' ⟨rfl, rfl⟩
                go_wp2_with fail
                go_meet
                exact ⟨by rw [← HQ1.out]; rfl, rfl⟩
              · go_wp2_with fail; refine (F1.out _).mono ?_; rintro e w' ⟨rfl, rfl⟩
                cases FF
                · go_wp2_with fail; refine (MF.out _).mono ?_; rintro e w' ⟨rfl, rfl⟩
                  go_wp2_with fail
                  go_meet
                  exact ⟨by rw [← HQ1.out]; rfl, rfl⟩
                · go_wp2_with fail; refine (MF.out _).mono ?_; rintro e w' ⟨rfl, rfl⟩
                  go_wp2_with fail
                  go_meet
                  exact ⟨by rw [← HQ1.out]; rfl, rfl⟩
          case rest => as_aux_lemma =>
            obtain ⟨rfl, hwc⟩ := hcut
            subst wc
            obtain ⟨zb, hzb⟩ : ∃ z, (if q1 then 1 else zr) = z := ⟨_, rfl⟩
            have HZB := Lib.hid hzb
            clear hzb
            go_upto_if 61 with fail
            go_cut [6, 7] from 46 to 61 (fun s6 s7 wx => s6 = .int .i64 zb ∧ s7 = .int .i64 zb ∧ wx = v2)
            case first => as_aux_lemma =>
              cases q1
              · have hz : zb = zr := by rw [← HZB.out]; rfl
                go_wp2_with fail
                go_meet
                exact ⟨by rw [hz], by rw [hz], rfl⟩
              · have hz : zb = 1 := by rw [← HZB.out]; rfl
                go_wp2_with fail
                go_meet
                exact ⟨by rw [hz], by rw [hz], rfl⟩
            case rest => as_aux_lemma =>
              obtain ⟨rfl, rfl, hwc⟩ := hcut
              subst wc
              go_wp2_with fail; refine (F2.out _).mono ?_; rintro e w' ⟨rfl, rfl⟩
              obtain ⟨za, hza⟩ : ∃ z, (if FO then zb else 1) = z := ⟨_, rfl⟩
              have HZA := Lib.hid hza
              clear hza
              go_upto_if 65 with fail
              go_cut [6] from 62 to 65 (fun s6 wx => s6 = .int .i64 za ∧ wx = v2)
              case first => as_aux_lemma =>
                cases FO
                · have hz : za = 1 := by rw [← HZA.out]; rfl
                  go_wp2_with fail
                  go_meet
                  exact ⟨by rw [hz], rfl⟩
                · have hz : za = zb := by rw [← HZA.out]; rfl
                  go_wp2_with fail
                  go_meet
                  exact ⟨by rw [hz], rfl⟩
              case rest => as_aux_lemma =>
                obtain ⟨rfl, hwc⟩ := hcut
                subst wc
                go_wp2_with fail; refine (F3.out _).mono ?_; rintro e w' ⟨rfl, rfl⟩
                obtain ⟨zc, hzc⟩ : ∃ z, (if FN then zr else 1) = z := ⟨_, rfl⟩
                have HZC := Lib.hid hzc
                clear hzc
                go_upto_if 69 with fail
                go_cut [8, 9] from 66 to 69 (fun s8 s9 wx => s8 = .int .i64 zc ∧ s9 = .int .i64 zc ∧ wx = v2)
                case first => as_aux_lemma =>
                  cases FN
                  · have hz : zc = 1 := by rw [← HZC.out]; rfl
                    go_wp2_with fail
                    go_meet
                    exact ⟨by rw [hz], by rw [hz], rfl⟩
                  · have hz : zc = zr := by rw [← HZC.out]; rfl
                    go_wp2_with fail
                    go_meet
                    exact ⟨by rw [hz], by rw [hz], rfl⟩
                case rest => as_aux_lemma =>
                  obtain ⟨rfl, rfl, hwc⟩ := hcut
                  subst wc
                  obtain ⟨q2, hq2⟩ : ∃ z, (!PP) = z := ⟨_, rfl⟩
                  have HQ2 := Lib.hid hq2
                  clear hq2
                  go_upto_region 19 with fail
                  go_cut [77] from 70 to 77 (fun s77 wx => s77 = .bool q2 ∧ wx = v2)
                  case first => as_aux_lemma =>
                    have E := HP.out
                    rcases Int.lt_or_le P 0 with hp | hp
                    · have d0 : decide (P < 0) = true := by simp; omega
                      have e : q2 = true := by rw [← HQ2.out, ← E]; simp; omega
                      clear hp  E
                      go_wp2_with fail
                      go_meet
                      exact ⟨by rw [e], rfl⟩
                    rcases Int.lt_or_le 99 P with hp2 | hp2
                    · have d0 : decide (P < 0) = false := by simp; omega
                      have d1 : decide (99 < P) = true := by simp; omega
                      have e : q2 = true := by rw [← HQ2.out, ← E]; simp; omega
                      clear hp hp2 E
                      go_wp2_with fail
                      go_meet
                      exact ⟨by rw [e], rfl⟩
                    · have d0 : decide (P < 0) = false := by simp; omega
                      have d1 : decide (99 < P) = false := by simp; omega
                      have e : q2 = false := by rw [← HQ2.out, ← E]; simp; omega
                      clear hp hp2 E
                      go_wp2_with fail
                      go_meet
                      exact ⟨by rw [e], rfl⟩
                  case rest => as_aux_lemma =>
                    obtain ⟨rfl, hwc⟩ := hcut
                    subst wc
                    obtain ⟨zd, hzd⟩ : ∃ z, (if q2 then 1 else zc) = z := ⟨_, rfl⟩
                    have HZD := Lib.hid hzd
                    clear hzd
                    go_upto_if 77 with fail
                    go_cut [9] from 70 to 77 (fun s9 wx => s9 = .int .i64 zd ∧ wx = v2)
                    case first => as_aux_lemma =>
                      cases q2
                      · have hz : zd = zc := by rw [← HZD.out]; rfl
                        go_wp2_with fail
                        go_meet
                        exact ⟨by rw [hz], rfl⟩
                      · have hz : zd = 1 := by rw [← HZD.out]; rfl
                        go_wp2_with fail
                        go_meet
                        exact ⟨by rw [hz], rfl⟩
                    case rest => as_aux_lemma =>
                      obtain ⟨rfl, hwc⟩ := hcut
                      subst wc
                      obtain ⟨A, hA⟩ : ∃ x, (GG && SS && FI && FO && FF) = x := ⟨_, rfl⟩
                      have TA : (za == 0) = A := by rw [← hA, ← HZA.out, ← HZB.out, ← HQ1.out, ← HZR.out]; cases GG <;> cases SS <;> cases FI <;> cases FO <;> cases FF <;> cases FN <;> cases PP <;> rfl
                      have EA : za = er A := by rw [← hA, ← HZA.out, ← HZB.out, ← HQ1.out, ← HZR.out]; cases GG <;> cases SS <;> cases FI <;> cases FO <;> cases FF <;> cases FN <;> cases PP <;> rfl
                      obtain ⟨B, hB⟩ : ∃ x, (GG && SS && FI && FF) = x := ⟨_, rfl⟩
                      have TB : (zb == 0) = B := by rw [← hB, ← HZB.out, ← HQ1.out, ← HZR.out]; cases GG <;> cases SS <;> cases FI <;> cases FO <;> cases FF <;> cases FN <;> cases PP <;> rfl
                      have EB : zb = er B := by rw [← hB, ← HZB.out, ← HQ1.out, ← HZR.out]; cases GG <;> cases SS <;> cases FI <;> cases FO <;> cases FF <;> cases FN <;> cases PP <;> rfl
                      obtain ⟨C, hC⟩ : ∃ x, (GG && FN) = x := ⟨_, rfl⟩
                      have TC : (zc == 0) = C := by rw [← hC, ← HZC.out, ← HZR.out]; cases GG <;> cases SS <;> cases FI <;> cases FO <;> cases FF <;> cases FN <;> cases PP <;> rfl
                      have EC : zc = er C := by rw [← hC, ← HZC.out, ← HZR.out]; cases GG <;> cases SS <;> cases FI <;> cases FO <;> cases FF <;> cases FN <;> cases PP <;> rfl
                      obtain ⟨D, hD⟩ : ∃ x, (GG && FN && PP) = x := ⟨_, rfl⟩
                      have TD : (zd == 0) = D := by rw [← hD, ← HZD.out, ← HQ2.out, ← HZC.out, ← HZR.out]; cases GG <;> cases SS <;> cases FI <;> cases FO <;> cases FF <;> cases FN <;> cases PP <;> rfl
                      have ED : zd = er D := by rw [← hD, ← HZD.out, ← HQ2.out, ← HZC.out, ← HZR.out]; cases GG <;> cases SS <;> cases FI <;> cases FO <;> cases FF <;> cases FN <;> cases PP <;> rfl
                      have HAX := Lib.hid hA
                      have EAX := Lib.hid EA
                      have HBX := Lib.hid hB
                      have EBX := Lib.hid EB
                      have HCX := Lib.hid hC
                      have ECX := Lib.hid EC
                      have HDX := Lib.hid hD
                      have EDX := Lib.hid ED
                      clear hA hB hC hD EA EB EC ED HZA HZB HZC HZD HQ1 HQ2 HZR SH6 F1 F2 F3 MF HP
                      go_upto_if 79 with fail
                      clear k2_wo_heap_size_0 q2_wo_heap_size_0 k2_wo_heap_size_1 q2_wo_heap_size_1 k2_wo_heap_size_2 q2_wo_heap_size_2 k2_wo_heap_size_3 q2_wo_heap_size_3 k2_wo_heap_size_4 q2_wo_heap_size_4 k2_wo_heap_size_5 q2_wo_heap_size_5 k2_wo_heap_size_6 q2_wo_heap_size_6 k2_wo_heap_size_7 q2_wo_heap_size_7 k2_wo_heap_size_8 q2_wo_heap_size_8 k2_wo_heap_size_9 q2_wo_heap_size_9 k2_wo_heap_size_10 q2_wo_heap_size_10
                      obtain ⟨n, hn⟩ : ∃ n : Nat, shp ss = true → pr ss = n := ⟨(pr ss).toNat, fun h => by have := (pr_bd _ ss rfl (shp_dims h).1.2).1; omega⟩
                      have HN := Lib.hid hn
                      obtain ⟨nn, hnn⟩ : ∃ n : Nat, fanB N = true → N = n := ⟨N.toNat, fun h => by simp only [fanB, Bool.and_eq_true, decide_eq_true_eq] at h; omega⟩
                      have HNN := Lib.hid hnn
                      clear hn hnn
                      generalize hZ : v2.heap.size = Z at *
                      have XVB : Ext v2 ((((((v2.alloc (.cells #[.slice none 0 0, .slice none 0 0] 26)).alloc (.cells #[.slice none 0 0, .slice none 0 0] 26)).alloc (.cells #[.slice none 0 0, .int .u64 0, .int .u64 0, .int .u64 0, .int .u64 0] 62)).alloc (.cells #[.slice none 0 0, .int .u64 0, .int .u64 0, .int .u64 0, .int .u64 0] 62)).alloc (.cells #[.slice none 0 0, .int .u64 0, .int .u64 0, .int .u64 0, .int .u64 0] 62)).alloc (.cells #[.slice none 0 0, .int .u64 0, .int .u64 0, .int .u64 0, .int .u64 0] 62)) := (((((Ext.alloc (Ext.refl v2) _).alloc _).alloc _).alloc _).alloc _).alloc _
                      have ST : Hid (SeSt v2 ((((((v2.alloc (.cells #[.slice none 0 0, .slice none 0 0] 26)).alloc (.cells #[.slice none 0 0, .slice none 0 0] 26)).alloc (.cells #[.slice none 0 0, .int .u64 0, .int .u64 0, .int .u64 0, .int .u64 0] 62)).alloc (.cells #[.slice none 0 0, .int .u64 0, .int .u64 0, .int .u64 0, .int .u64 0] 62)).alloc (.cells #[.slice none 0 0, .int .u64 0, .int .u64 0, .int .u64 0, .int .u64 0] 62)).alloc (.cells #[.slice none 0 0, .int .u64 0, .int .u64 0, .int .u64 0, .int .u64 0] 62)) Z #[.slice none 0 0, .slice none 0 0] #[.slice none 0 0, .slice none 0 0] #[.slice none 0 0, .int .u64 0, .int .u64 0, .int .u64 0, .int .u64 0] #[.slice none 0 0, .int .u64 0, .int .u64 0, .int .u64 0, .int .u64 0] #[.slice none 0 0, .int .u64 0, .int .u64 0, .int .u64 0, .int .u64 0] #[.slice none 0 0, .int .u64 0, .int .u64 0, .int .u64 0, .int .u64 0]) := Lib.hid (by
                        subst hZ
                        refine ⟨XVB, ?_, ?_, ?_, ?_, ?_, ?_⟩
                        · exact (((((Blk.new v2 _ _).alloc _).alloc _).alloc _).alloc _).alloc _
                        · have := ((((Blk.new (v2.alloc (.cells #[.slice none 0 0, .slice none 0 0] 26)) 26 #[.slice none 0 0, .slice none 0 0]).alloc (.cells #[.slice none 0 0, .int .u64 0, .int .u64 0, .int .u64 0, .int .u64 0] 62)).alloc (.cells #[.slice none 0 0, .int .u64 0, .int .u64 0, .int .u64 0, .int .u64 0] 62)).alloc (.cells #[.slice none 0 0, .int .u64 0, .int .u64 0, .int .u64 0, .int .u64 0] 62)).alloc (.cells #[.slice none 0 0, .int .u64 0, .int .u64 0, .int .u64 0, .int .u64 0] 62); simpa using this
                        · have := (((Blk.new ((v2.alloc (.cells #[.slice none 0 0, .slice none 0 0] 26)).alloc (.cells #[.slice none 0 0, .slice none 0 0] 26)) 62 #[.slice none 0 0, .int .u64 0, .int .u64 0, .int .u64 0, .int .u64 0]).alloc (.cells #[.slice none 0 0, .int .u64 0, .int .u64 0, .int .u64 0, .int .u64 0] 62)).alloc (.cells #[.slice none 0 0, .int .u64 0, .int .u64 0, .int .u64 0, .int .u64 0] 62)).alloc (.cells #[.slice none 0 0, .int .u64 0, .int .u64 0, .int .u64 0, .int .u64 0] 62); simpa using this
                        · have := ((Blk.new (((v2.alloc (.cells #[.slice none 0 0, .slice none 0 0] 26)).alloc (.cells #[.slice none 0 0, .slice none 0 0] 26)).alloc (.cells #[.slice none 0 0, .int .u64 0, .int .u64 0, .int .u64 0, .int .u64 0] 62)) 62 #[.slice none 0 0, .int .u64 0, .int .u64 0, .int .u64 0, .int .u64 0]).alloc (.cells #[.slice none 0 0, .int .u64 0, .int .u64 0, .int .u64 0, .int .u64 0] 62)).alloc (.cells #[.slice none 0 0, .int .u64 0, .int .u64 0, .int .u64 0, .int .u64 0] 62); simpa using this
                        · have := (Blk.new ((((v2.alloc (.cells #[.slice none 0 0, .slice none 0 0] 26)).alloc (.cells #[.slice none 0 0, .slice none 0 0] 26)).alloc (.cells #[.slice none 0 0, .int .u64 0, .int .u64 0, .int .u64 0, .int .u64 0] 62)).alloc (.cells #[.slice none 0 0, .int .u64 0, .int .u64 0, .int .u64 0, .int .u64 0] 62)) 62 #[.slice none 0 0, .int .u64 0, .int .u64 0, .int .u64 0, .int .u64 0]).alloc (.cells #[.slice none 0 0, .int .u64 0, .int .u64 0, .int .u64 0, .int .u64 0] 62); simpa using this
                        · have := Blk.new (((((v2.alloc (.cells #[.slice none 0 0, .slice none 0 0] 26)).alloc (.cells #[.slice none 0 0, .slice none 0 0] 26)).alloc (.cells #[.slice none 0 0, .int .u64 0, .int .u64 0, .int .u64 0, .int .u64 0] 62)).alloc (.cells #[.slice none 0 0, .int .u64 0, .int .u64 0, .int .u64 0, .int .u64 0] 62)).alloc (.cells #[.slice none 0 0, .int .u64 0, .int .u64 0, .int .u64 0, .int .u64 0] 62)) 62 #[.slice none 0 0, .int .u64 0, .int .u64 0, .int .u64 0, .int .u64 0]; simpa using this)
                      have xwb : Ext wo ((((((v2.alloc (.cells #[.slice none 0 0, .slice none 0 0] 26)).alloc (.cells #[.slice none 0 0, .slice none 0 0] 26)).alloc (.cells #[.slice none 0 0, .int .u64 0, .int .u64 0, .int .u64 0, .int .u64 0] 62)).alloc (.cells #[.slice none 0 0, .int .u64 0, .int .u64 0, .int .u64 0, .int .u64 0] 62)).alloc (.cells #[.slice none 0 0, .int .u64 0, .int .u64 0, .int .u64 0, .int .u64 0] 62)).alloc (.cells #[.slice none 0 0, .int .u64 0, .int .u64 0, .int .u64 0, .int .u64 0] 62)) := x12.tr XVB
                      generalize ((((((v2.alloc (.cells #[.slice none 0 0, .slice none 0 0] 26)).alloc (.cells #[.slice none 0 0, .slice none 0 0] 26)).alloc (.cells #[.slice none 0 0, .int .u64 0, .int .u64 0, .int .u64 0, .int .u64 0] 62)).alloc (.cells #[.slice none 0 0, .int .u64 0, .int .u64 0, .int .u64 0, .int .u64 0] 62)).alloc (.cells #[.slice none 0 0, .int .u64 0, .int .u64 0, .int .u64 0, .int .u64 0] 62)).alloc (.cells #[.slice none 0 0, .int .u64 0, .int .u64 0, .int .u64 0, .int .u64 0] 62)) = vb at *
                      have KP : Hid (∀ w' : World, Ext v2 w' → w'.cell? ⟨wo.heap.size, 0, none⟩ = some (.slice a0 m0 l0) ∧ w'.cell? ⟨wo.heap.size, 1, none⟩ = some (.int .u64 p0) ∧ w'.cell? ⟨wo.heap.size, 2, none⟩ = some (.int .u64 q0) ∧ w'.cell? ⟨wo.heap.size, 3, none⟩ = some (.int .u64 r0) ∧ w'.cell? ⟨wo.heap.size, 4, none⟩ = some (.int .u64 s0) ∧ w'.cell? ⟨wo.heap.size, 5, none⟩ = some (.slice sb ss.length sc) ∧ w'.cell? ⟨wo.heap.size, 6, none⟩ = some (.int .i64 In) ∧ w'.cell? ⟨wo.heap.size, 7, none⟩ = some (.int .i64 Out) ∧ w'.cell? ⟨wo.heap.size, 10, none⟩ = some (.int .i64 F) ∧ wo.heap.size < w'.heap.size ∧ Ext v2 w') := Lib.hid fun w' x => by
                        obtain ⟨h0, h1, h2, h3, h4, h5, h6, h7, h8, h9, h10⟩ := ask_blk (B2.out.ext x)
                        exact ⟨h0, h1, h2, h3, h4, h5, h6, h7, h10, (B2.out.ext x).lt, x⟩
                      go_cut [] from 78 to 95 (fun wx => ∃ (z : Int) (sa : Option Addr) (sn sc : Nat) (da : Option Addr) (dn dc : Nat) (a : Option Addr) (m c : Nat) (p q t u : Int), Hid (A = true → NearRoot (dv 6 (In + Out) F * p2 F) 1 z) ∧ Hid (SeSt v2 wx Z #[.slice sa sn sc, .slice da dn dc] #[.slice none 0 0, .slice none 0 0] #[.slice a m c, .int .u64 p, .int .u64 q, .int .u64 t, .int .u64 u] #[.slice none 0 0, .int .u64 0, .int .u64 0, .int .u64 0, .int .u64 0] #[.slice none 0 0, .int .u64 0, .int .u64 0, .int .u64 0, .int .u64 0] #[.slice none 0 0, .int .u64 0, .int .u64 0, .int .u64 0, .int .u64 0]) ∧ Hid (OwnT (Z + 6) wx (.slice sa sn sc) (.slice da dn dc) (wantS A ss) (wantD A z n g)) ∧ Hid (RandAt wo (.agg #[.slice a m c, .int .u64 p, .int .u64 q, .int .u64 t, .int .u64 u]) (wantG A z n g)))
                      case first => as_aux_lemma =>
                        cases A
                        · go_wp2_with fail
                          go_meet
                          exact ⟨0, none, 0, 0, none, 0, 0, none, 0, 0, 0, 0, 0, 0, Lib.hid (fun h => by cases h), ST, Lib.hid (OwnT.nil _ _), Lib.hid (gen00_at _)⟩
                        · have hA := HAX.out
                          simp only [Bool.and_eq_true] at hA
                          obtain ⟨⟨⟨⟨y1, y2⟩, y3⟩, y4⟩, y5⟩ := hA
                          obtain ⟨z1, z2, z3, z4, -, z5, -⟩ := EE.out
                          rw [y1] at z1
                          rw [y2] at z2
                          rw [y3] at z3
                          rw [y4] at z4
                          rw [y5] at z5
                          have b3 := z3
                          have b4 := z4
                          simp only [fanB, Bool.and_eq_true, decide_eq_true_eq] at b3 b4
                          have ew : IntKind.i64.wrap (In + Out) = In + Out := wrap_i64 (by omega) (by omega)
                          have BN := Lib.hid (fun u => bound_ref (n := In + Out) (f := F) u (by omega) (by omega) z5)
                          have FL := Lib.hid (fun u (x : Ext wo u) r (hr : Hid (NearRoot (dv 6 (In + Out) F * p2 F) 1 r ∧ gd r = true)) => fill_ref (A := r) HR.out (OldAs.of_ext x) ⟨z1, HSC.out⟩ (HS.out.ext x) z2 n (HN.out z2) (bound_lt (by omega) z5 hr.out.1).1 (bound_lt (by omega) z5 hr.out.1).2)
                          have j0 := (ST.out.b10.cell 0).trans (show (#[.slice none 0 0, .slice none 0 0] : Array Value)[0]? = some (.slice none 0 0) from rfl)
                          have j1 := (ST.out.b10.cell 1).trans (show (#[.slice none 0 0, .slice none 0 0] : Array Value)[1]? = some (.slice none 0 0) from rfl)
                          have jf0 := ST.out.b10.frozen 0
                          have jf1 := ST.out.b10.frozen 1
                          have lz0 := (ST.out.b14.cell 0).trans (show (#[.slice none 0 0, .int .u64 0, .int .u64 0, .int .u64 0, .int .u64 0] : Array Value)[0]? = some (.slice none 0 0) from rfl)
                          have lzf0 := ST.out.b14.frozen 0
                          have lz1 := (ST.out.b14.cell 1).trans (show (#[.slice none 0 0, .int .u64 0, .int .u64 0, .int .u64 0, .int .u64 0] : Array Value)[1]? = some (.int .u64 0) from rfl)
                          have lzf1 := ST.out.b14.frozen 1
                          have lz2 := (ST.out.b14.cell 2).trans (show (#[.slice none 0 0, .int .u64 0, .int .u64 0, .int .u64 0, .int .u64 0] : Array Value)[2]? = some (.int .u64 0) from rfl)
                          have lzf2 := ST.out.b14.frozen 2
                          have lz3 := (ST.out.b14.cell 3).trans (show (#[.slice none 0 0, .int .u64 0, .int .u64 0, .int .u64 0, .int .u64 0] : Array Value)[3]? = some (.int .u64 0) from rfl)
                          have lzf3 := ST.out.b14.frozen 3
                          have lz4 := (ST.out.b14.cell 4).trans (show (#[.slice none 0 0, .int .u64 0, .int .u64 0, .int .u64 0, .int .u64 0] : Array Value)[4]? = some (.int .u64 0) from rfl)
                          have lzf4 := ST.out.b14.frozen 4
                          have zv := ST.out.b17.lt
                          have xst := ST.out.x
                          clear z1 z2 z3 z4 z5 b3 b4 y1 y2 y3 y4 y5
                          go_wp2_with fail
                          go_region_held3 (fun w' => w'.cell? ⟨wo.heap.size, 0, none⟩ = some (.slice a0 m0 l0) ∧ w'.cell? ⟨wo.heap.size, 1, none⟩ = some (.int .u64 p0) ∧ w'.cell? ⟨wo.heap.size, 2, none⟩ = some (.int .u64 q0) ∧ w'.cell? ⟨wo.heap.size, 3, none⟩ = some (.int .u64 r0) ∧ w'.cell? ⟨wo.heap.size, 4, none⟩ = some (.int .u64 s0) ∧ w'.cell? ⟨wo.heap.size, 5, none⟩ = some (.slice sb ss.length sc) ∧ w'.cell? ⟨wo.heap.size, 6, none⟩ = some (.int .i64 In) ∧ w'.cell? ⟨wo.heap.size, 7, none⟩ = some (.int .i64 Out) ∧ w'.cell? ⟨wo.heap.size, 10, none⟩ = some (.int .i64 F) ∧ wo.heap.size < w'.heap.size ∧ Ext v2 w')
                            (exact KP.out _ Ext.q)
                            (first
                              | (go_at_call 47; refine (BN.out _).mono ?_; rintro e v3 ⟨r3, rfl, x3, nr3⟩; obtain ⟨c3, f3⟩ := x3.rules; have z3 := x3.size; have lq := fun o => c3 (Z) o (by first | (simp; done) | (simp; omega) | omega); have mq := fun o => f3 (Z) o (by first | (simp; done) | (simp; omega) | omega); have k3_Z_0 := lq 0; have q3_Z_0 := mq 0; have k3_Z_1 := lq 1; have q3_Z_1 := mq 1; clear lq mq; have lq := fun o => c3 (Z + 1 + 1) o (by first | (simp; done) | (simp; omega) | omega); have mq := fun o => f3 (Z + 1 + 1) o (by first | (simp; done) | (simp; omega) | omega); have k3_Z___1___1_0 := lq 0; have q3_Z___1___1_0 := mq 0; have k3_Z___1___1_1 := lq 1; have q3_Z___1___1_1 := mq 1; have k3_Z___1___1_2 := lq 2; have q3_Z___1___1_2 := mq 2; have k3_Z___1___1_3 := lq 3; have q3_Z___1___1_3 := mq 3; have k3_Z___1___1_4 := lq 4; have q3_Z___1___1_4 := mq 4; clear lq mq; have z3_Z : Z < v3.heap.size := (by (try simp at z3); omega); have z3_Z___1 : Z + 1 < v3.heap.size := (by (try simp at z3); omega); have z3_Z___1___1 : Z + 1 + 1 < v3.heap.size := (by (try simp at z3); omega); (try simp at z3); clear c3 f3; simp [go_sem, *] at k3_Z_0 q3_Z_0 k3_Z_1 q3_Z_1 k3_Z___1___1_0 q3_Z___1___1_0 k3_Z___1___1_1 q3_Z___1___1_1 k3_Z___1___1_2 q3_Z___1___1_2 k3_Z___1___1_3 q3_Z___1___1_3 k3_Z___1___1_4 q3_Z___1___1_4; dsimp only; clear BN)
                              | (go_at_call 46; refine (FL.out _ Ext.q _ nr3).mono ?_; rintro e v4 ⟨sa4, sc4, da4, dc4, a4, m4, d4, p4, q4, t4, u4, rfl, x4, tn4, rn4⟩; obtain ⟨c4, f4⟩ := x4.rules; have z4 := x4.size; have lq := fun o => c4 (Z) o (by first | (simp; done) | (simp; omega) | omega); have mq := fun o => f4 (Z) o (by first | (simp; done) | (simp; omega) | omega); have k4_Z_0 := lq 0; have q4_Z_0 := mq 0; have k4_Z_1 := lq 1; have q4_Z_1 := mq 1; clear lq mq; have lq := fun o => c4 (Z + 1 + 1) o (by first | (simp; done) | (simp; omega) | omega); have mq := fun o => f4 (Z + 1 + 1) o (by first | (simp; done) | (simp; omega) | omega); have k4_Z___1___1_0 := lq 0; have q4_Z___1___1_0 := mq 0; have k4_Z___1___1_1 := lq 1; have q4_Z___1___1_1 := mq 1; have k4_Z___1___1_2 := lq 2; have q4_Z___1___1_2 := mq 2; have k4_Z___1___1_3 := lq 3; have q4_Z___1___1_3 := mq 3; have k4_Z___1___1_4 := lq 4; have q4_Z___1___1_4 := mq 4; clear lq mq; have z4_Z : Z < v4.heap.size := (by (try simp at z4); omega); have z4_Z___1 : Z + 1 < v4.heap.size := (by (try simp at z4); omega); have z4_Z___1___1 : Z + 1 + 1 < v4.heap.size := (by (try simp at z4); omega); (try simp at z4); clear c4 f4; simp [go_sem, *] at k4_Z_0 q4_Z_0 k4_Z_1 q4_Z_1 k4_Z___1___1_0 q4_Z___1___1_0 k4_Z___1___1_1 q4_Z___1___1_1 k4_Z___1___1_2 q4_Z___1___1_2 k4_Z___1___1_3 q4_Z___1___1_3 k4_Z___1___1_4 q4_Z___1___1_4; dsimp only; clear FL))
                          all_goals
                            go_wp2_with fail
                            go_meet
                            have hz3 := x3.size
                            (try simp at hz3)
                            have OT := OwnT.filled tn4.out (by omega : Z + 6 ≤ _)
                            exact ⟨r3, sa4, ss.length, sc4, da4, n, dc4, a4, m4, d4, p4, q4, t4, u4, Lib.hid (fun _ => nr3.out.1), Lib.hid ((ST.out.ext Ext.q).putX hZ rfl rfl _ _ _ _ _ _ _), Lib.hid (OT.set7 (by omega) (by omega) _ _ _ _ _ _ _), rn4⟩
                      case rest => as_aux_lemma =>
                        obtain ⟨zX, saX, snX, scX, daX, dnX, dcX, aX, mX, cX, pX, qX, tX, uX, hzX, stX, OX, rX⟩ := hcut
                        clear ST
                        have ST := stX
                        have xwb2 : Ext wo wc := x12.tr ST.out.x
                        clear stX xwb
                        obtain ⟨W1, rfl⟩ : ∃ W1 : World, W1 = wc := ⟨_, rfl⟩
                        go_upto_if 97 with fail
                        go_cut [] from 96 to 110 (fun wx => ∃ (z : Int) (sa : Option Addr) (sn sc : Nat) (da : Option Addr) (dn dc : Nat) (a : Option Addr) (m c : Nat) (p q t u : Int), Hid (B = true → NearRoot (dv 6 (In) F * p2 F) 1 z) ∧ Hid (SeSt v2 wx Z #[.slice saX snX scX, .slice daX dnX dcX] #[.slice sa sn sc, .slice da dn dc] #[.slice aX mX cX, .int .u64 pX, .int .u64 qX, .int .u64 tX, .int .u64 uX] #[.slice a m c, .int .u64 p, .int .u64 q, .int .u64 t, .int .u64 u] #[.slice none 0 0, .int .u64 0, .int .u64 0, .int .u64 0, .int .u64 0] #[.slice none 0 0, .int .u64 0, .int .u64 0, .int .u64 0, .int .u64 0]) ∧ Hid (OwnT (Z + 6) wx (.slice sa sn sc) (.slice da dn dc) (wantS B ss) (wantD B z n g)) ∧ Hid (OwnT (Z + 6) wx (.slice saX snX scX) (.slice daX dnX dcX) (wantS A ss) (wantD A zX n g)) ∧ Hid (RandAt wo (.agg #[.slice a m c, .int .u64 p, .int .u64 q, .int .u64 t, .int .u64 u]) (wantG B z n g)))
                        case first => as_aux_lemma =>
                          cases B
                          · go_wp2_with fail
                            go_meet
                            exact ⟨0, none, 0, 0, none, 0, 0, none, 0, 0, 0, 0, 0, 0, Lib.hid (fun h => by cases h), ST, Lib.hid (OwnT.nil _ _), OX, Lib.hid (gen00_at _)⟩
                          · have hA := HBX.out
                            simp only [Bool.and_eq_true] at hA
                            obtain ⟨⟨⟨y1, y2⟩, y3⟩, y5⟩ := hA
                            obtain ⟨z1, z2, z3, z4, -, z5, -⟩ := EE.out
                            rw [y1] at z1
                            rw [y2] at z2
                            rw [y3] at z3
                            rw [y5] at z5
                            have b3 := z3
                            simp only [fanB, Bool.and_eq_true, decide_eq_true_eq] at b3
                            have BN := Lib.hid (fun u => bound_ref (n := In) (f := F) u (by omega) (by omega) z5)
                            have FL := Lib.hid (fun u (x : Ext wo u) r (hr : Hid (NearRoot (dv 6 (In) F * p2 F) 1 r ∧ gd r = true)) => fill_ref (A := r) HR.out (OldAs.of_ext x) ⟨z1, HSC.out⟩ (HS.out.ext x) z2 n (HN.out z2) (bound_lt (by omega) z5 hr.out.1).1 (bound_lt (by omega) z5 hr.out.1).2)
                            have j0 := (ST.out.b11.cell 0).trans (show (#[.slice none 0 0, .slice none 0 0] : Array Value)[0]? = some (.slice none 0 0) from rfl)
                            have j1 := (ST.out.b11.cell 1).trans (show (#[.slice none 0 0, .slice none 0 0] : Array Value)[1]? = some (.slice none 0 0) from rfl)
                            have jf0 := ST.out.b11.frozen 0
                            have jf1 := ST.out.b11.frozen 1
                            have lz0 := (ST.out.b15.cell 0).trans (show (#[.slice none 0 0, .int .u64 0, .int .u64 0, .int .u64 0, .int .u64 0] : Array Value)[0]? = some (.slice none 0 0) from rfl)
                            have lzf0 := ST.out.b15.frozen 0
                            have lz1 := (ST.out.b15.cell 1).trans (show (#[.slice none 0 0, .int .u64 0, .int .u64 0, .int .u64 0, .int .u64 0] : Array Value)[1]? = some (.int .u64 0) from rfl)
                            have lzf1 := ST.out.b15.frozen 1
                            have lz2 := (ST.out.b15.cell 2).trans (show (#[.slice none 0 0, .int .u64 0, .int .u64 0, .int .u64 0, .int .u64 0] : Array Value)[2]? = some (.int .u64 0) from rfl)
                            have lzf2 := ST.out.b15.frozen 2
                            have lz3 := (ST.out.b15.cell 3).trans (show (#[.slice none 0 0, .int .u64 0, .int .u64 0, .int .u64 0, .int .u64 0] : Array Value)[3]? = some (.int .u64 0) from rfl)
                            have lzf3 := ST.out.b15.frozen 3
                            have lz4 := (ST.out.b15.cell 4).trans (show (#[.slice none 0 0, .int .u64 0, .int .u64 0, .int .u64 0, .int .u64 0] : Array Value)[4]? = some (.int .u64 0) from rfl)
                            have lzf4 := ST.out.b15.frozen 4
                            have zv := ST.out.b17.lt
                            have xst := ST.out.x
                            clear z1 z2 z3 z4 z5 b3  y1 y2 y3  y5
                            go_wp2_with fail
                            go_region_held3 (fun w' => w'.cell? ⟨wo.heap.size, 0, none⟩ = some (.slice a0 m0 l0) ∧ w'.cell? ⟨wo.heap.size, 1, none⟩ = some (.int .u64 p0) ∧ w'.cell? ⟨wo.heap.size, 2, none⟩ = some (.int .u64 q0) ∧ w'.cell? ⟨wo.heap.size, 3, none⟩ = some (.int .u64 r0) ∧ w'.cell? ⟨wo.heap.size, 4, none⟩ = some (.int .u64 s0) ∧ w'.cell? ⟨wo.heap.size, 5, none⟩ = some (.slice sb ss.length sc) ∧ w'.cell? ⟨wo.heap.size, 6, none⟩ = some (.int .i64 In) ∧ w'.cell? ⟨wo.heap.size, 7, none⟩ = some (.int .i64 Out) ∧ w'.cell? ⟨wo.heap.size, 10, none⟩ = some (.int .i64 F) ∧ wo.heap.size < w'.heap.size ∧ Ext v2 w')
                              (exact KP.out _ Ext.q)
                              (first
                                | (go_at_call 47; refine (BN.out _).mono ?_; rintro e v3 ⟨r3, rfl, x3, nr3⟩; obtain ⟨c3, f3⟩ := x3.rules; have z3 := x3.size; have lq := fun o => c3 (Z + 1) o (by first | (simp; done) | (simp; omega) | omega); have mq := fun o => f3 (Z + 1) o (by first | (simp; done) | (simp; omega) | omega); have k3_Z___1_0 := lq 0; have q3_Z___1_0 := mq 0; have k3_Z___1_1 := lq 1; have q3_Z___1_1 := mq 1; clear lq mq; have lq := fun o => c3 (Z + 1 + 1 + 1) o (by first | (simp; done) | (simp; omega) | omega); have mq := fun o => f3 (Z + 1 + 1 + 1) o (by first | (simp; done) | (simp; omega) | omega); have k3_Z___1___1___1_0 := lq 0; have q3_Z___1___1___1_0 := mq 0; have k3_Z___1___1___1_1 := lq 1; have q3_Z___1___1___1_1 := mq 1; have k3_Z___1___1___1_2 := lq 2; have q3_Z___1___1___1_2 := mq 2; have k3_Z___1___1___1_3 := lq 3; have q3_Z___1___1___1_3 := mq 3; have k3_Z___1___1___1_4 := lq 4; have q3_Z___1___1___1_4 := mq 4; clear lq mq; have z3_Z : Z < v3.heap.size := (by (try simp at z3); omega); have z3_Z___1 : Z + 1 < v3.heap.size := (by (try simp at z3); omega); have z3_Z___1___1 : Z + 1 + 1 < v3.heap.size := (by (try simp at z3); omega); have z3_Z___1___1___1 : Z + 1 + 1 + 1 < v3.heap.size := (by (try simp at z3); omega); (try simp at z3); clear c3 f3; simp [go_sem, *] at k3_Z___1_0 q3_Z___1_0 k3_Z___1_1 q3_Z___1_1 k3_Z___1___1___1_0 q3_Z___1___1___1_0 k3_Z___1___1___1_1 q3_Z___1___1___1_1 k3_Z___1___1___1_2 q3_Z___1___1___1_2 k3_Z___1___1___1_3 q3_Z___1___1___1_3 k3_Z___1___1___1_4 q3_Z___1___1___1_4; dsimp only; clear BN)
                                | (go_at_call 46; refine (FL.out _ Ext.q _ nr3).mono ?_; rintro e v4 ⟨sa4, sc4, da4, dc4, a4, m4, d4, p4, q4, t4, u4, rfl, x4, tn4, rn4⟩; obtain ⟨c4, f4⟩ := x4.rules; have z4 := x4.size; have lq := fun o => c4 (Z + 1) o (by first | (simp; done) | (simp; omega) | omega); have mq := fun o => f4 (Z + 1) o (by first | (simp; done) | (simp; omega) | omega); have k4_Z___1_0 := lq 0; have q4_Z___1_0 := mq 0; have k4_Z___1_1 := lq 1; have q4_Z___1_1 := mq 1; clear lq mq; have lq := fun o => c4 (Z + 1 + 1 + 1) o (by first | (simp; done) | (simp; omega) | omega); have mq := fun o => f4 (Z + 1 + 1 + 1) o (by first | (simp; done) | (simp; omega) | omega); have k4_Z___1___1___1_0 := lq 0; have q4_Z___1___1___1_0 := mq 0; have k4_Z___1___1___1_1 := lq 1; have q4_Z___1___1___1_1 := mq 1; have k4_Z___1___1___1_2 := lq 2; have q4_Z___1___1___1_2 := mq 2; have k4_Z___1___1___1_3 := lq 3; have q4_Z___1___1___1_3 := mq 3; have k4_Z___1___1___1_4 := lq 4; have q4_Z___1___1___1_4 := mq 4; clear lq mq; have z4_Z : Z < v4.heap.size := (by (try simp at z4); omega); have z4_Z___1 : Z + 1 < v4.heap.size := (by (try simp at z4); omega); have z4_Z___1___1 : Z + 1 + 1 < v4.heap.size := (by (try simp at z4); omega); have z4_Z___1___1___1 : Z + 1 + 1 + 1 < v4.heap.size := (by (try simp at z4); omega); (try simp at z4); clear c4 f4; simp [go_sem, *] at k4_Z___1_0 q4_Z___1_0 k4_Z___1_1 q4_Z___1_1 k4_Z___1___1___1_0 q4_Z___1___1___1_0 k4_Z___1___1___1_1 q4_Z___1___1___1_1 k4_Z___1___1___1_2 q4_Z___1___1___1_2 k4_Z___1___1___1_3 q4_Z___1___1___1_3 k4_Z___1___1___1_4 q4_Z___1___1___1_4; dsimp only; clear FL))
                            all_goals
                              go_wp2_with fail
                              go_meet
                              have hz3 := x3.size
                              (try simp at hz3)
                              have OT := OwnT.filled tn4.out (by omega : Z + 6 ≤ _)
                              exact ⟨r3, sa4, ss.length, sc4, da4, n, dc4, a4, m4, d4, p4, q4, t4, u4, Lib.hid (fun _ => nr3.out.1), Lib.hid ((ST.out.ext Ext.q).putY hZ rfl rfl _ _ _ _ _ _ _), Lib.hid (OT.set7 (by omega) (by omega) _ _ _ _ _ _ _), Lib.hid ((OX.out.ext Ext.q).set7 (by omega) (by omega) _ _ _ _ _ _ _), rn4⟩
                        case rest => as_aux_lemma =>
                          obtain ⟨zY, saY, snY, scY, daY, dnY, dcY, aY, mY, cY, pY, qY, tY, uY, hzY, stY, OY, oX2, rY⟩ := hcut
                          clear ST OX
                          have ST := stY
                          have OX := oX2
                          have xwb3 : Ext wo wc := x12.tr ST.out.x
                          clear stY oX2 xwb2
                          obtain ⟨W2, rfl⟩ : ∃ W2 : World, W2 = wc := ⟨_, rfl⟩
                          go_upto_if 112 with fail
                          go_cut [12] from 111 to 120 (fun s12 wx => ∃ (oa : Option Addr) (on oc : Nat) (a : Option Addr) (m c : Nat) (p q t u : Int), s12 = .slice oa on oc ∧ Hid (SeSt v2 wx Z #[.slice saX snX scX, .slice daX dnX dcX] #[.slice saY snY scY, .slice daY dnY dcY] #[.slice aX mX cX, .int .u64 pX, .int .u64 qX, .int .u64 tX, .int .u64 uX] #[.slice aY mY cY, .int .u64 pY, .int .u64 qY, .int .u64 tY, .int .u64 uY] #[.slice a m c, .int .u64 p, .int .u64 q, .int .u64 t, .int .u64 u] #[.slice none 0 0, .int .u64 0, .int .u64 0, .int .u64 0, .int .u64 0]) ∧ Hid (OwnT (Z + 6) wx (.slice saX snX scX) (.slice daX dnX dcX) (wantS A ss) (wantD A zX n g)) ∧ Hid (OwnT (Z + 6) wx (.slice saY snY scY) (.slice daY dnY dcY) (wantS B ss) (wantD B zY n g)) ∧ Hid (wx.ownsRow (Z + 6) 3 1 (.slice oa on oc) (wantO C nn g).length ((wantO C nn g).map (Value.int .i64))) ∧ Hid (RandAt wo (.agg #[.slice a m c, .int .u64 p, .int .u64 q, .int .u64 t, .int .u64 u]) (wantT C nn g)))
                          case first => as_aux_lemma =>
                            obtain ⟨k0, k1, k2, k3, k4, k5, k6, k7, k8, k9, k10⟩ := ask_blk (B2.out.ext ST.out.x)
                            have zk := (B2.out.ext ST.out.x).lt
                            cases C
                            · clear k0 k1 k2 k3 k4 k5 k6 k7 k8 k9 k10
                              go_wp2_with fail
                              go_meet
                              exact ⟨none, 0, 0, none, 0, 0, 0, 0, 0, 0, rfl, ST, OX, OY, Lib.hid (World.ownsRow_nil _ _ _ _), Lib.hid (gen00_at _)⟩
                            · have hA := HCX.out
                              simp only [Bool.and_eq_true] at hA
                              obtain ⟨y1, y3⟩ := hA
                              obtain ⟨z1, -, -, -, z5, -, -⟩ := EE.out
                              rw [y1] at z1
                              rw [y3] at z5
                              have eN := HNN.out z5
                              have b5 := z5
                              simp only [fanB, Bool.and_eq_true, decide_eq_true_eq] at b5
                              have SHR := Lib.hid (fun u (x : Ext wo u) => shuffle_ref (n := nn) HR.out (OldAs.of_ext x) ⟨z1, HSC.out⟩ (by omega) (by omega))
                              rw [← eN] at SHR
                              have lz0 := (ST.out.b16.cell 0).trans (show (#[.slice none 0 0, .int .u64 0, .int .u64 0, .int .u64 0, .int .u64 0] : Array Value)[0]? = some (.slice none 0 0) from rfl)
                              have lzf0 := ST.out.b16.frozen 0
                              have lz1 := (ST.out.b16.cell 1).trans (show (#[.slice none 0 0, .int .u64 0, .int .u64 0, .int .u64 0, .int .u64 0] : Array Value)[1]? = some (.int .u64 0) from rfl)
                              have lzf1 := ST.out.b16.frozen 1
                              have lz2 := (ST.out.b16.cell 2).trans (show (#[.slice none 0 0, .int .u64 0, .int .u64 0, .int .u64 0, .int .u64 0] : Array Value)[2]? = some (.int .u64 0) from rfl)
                              have lzf2 := ST.out.b16.frozen 2
                              have lz3 := (ST.out.b16.cell 3).trans (show (#[.slice none 0 0, .int .u64 0, .int .u64 0, .int .u64 0, .int .u64 0] : Array Value)[3]? = some (.int .u64 0) from rfl)
                              have lzf3 := ST.out.b16.frozen 3
                              have lz4 := (ST.out.b16.cell 4).trans (show (#[.slice none 0 0, .int .u64 0, .int .u64 0, .int .u64 0, .int .u64 0] : Array Value)[4]? = some (.int .u64 0) from rfl)
                              have lzf4 := ST.out.b16.frozen 4
                              have zv := ST.out.b17.lt
                              clear z1 z5 b5 eN
                              go_wp2_with fail
                              go_wp2_with fail; refine (SHR.out _ Ext.q).mono ?_; rintro e v4 ⟨oa4, oc4, a4, m4, d4, p4, q4, t4, u4, rfl, x4, or4, rg4⟩; obtain ⟨c4, f4⟩ := x4.rules; have z4 := x4.size; have lq := fun o => c4 (Z + 1 + 1 + 1 + 1) o (by first | (simp; done) | (simp; omega) | omega); have mq := fun o => f4 (Z + 1 + 1 + 1 + 1) o (by first | (simp; done) | (simp; omega) | omega); have k4_Z___1___1___1___1_0 := lq 0; have q4_Z___1___1___1___1_0 := mq 0; have k4_Z___1___1___1___1_1 := lq 1; have q4_Z___1___1___1___1_1 := mq 1; have k4_Z___1___1___1___1_2 := lq 2; have q4_Z___1___1___1___1_2 := mq 2; have k4_Z___1___1___1___1_3 := lq 3; have q4_Z___1___1___1___1_3 := mq 3; have k4_Z___1___1___1___1_4 := lq 4; have q4_Z___1___1___1___1_4 := mq 4; clear lq mq; have z4_Z : Z < v4.heap.size := (by (try simp at z4); omega); have z4_Z___1 : Z + 1 < v4.heap.size := (by (try simp at z4); omega); have z4_Z___1___1 : Z + 1 + 1 < v4.heap.size := (by (try simp at z4); omega); have z4_Z___1___1___1 : Z + 1 + 1 + 1 < v4.heap.size := (by (try simp at z4); omega); have z4_Z___1___1___1___1 : Z + 1 + 1 + 1 + 1 < v4.heap.size := (by (try simp at z4); omega); (try simp at z4); clear c4 f4; simp [go_sem, *] at k4_Z___1___1___1___1_0 q4_Z___1___1___1___1_0 k4_Z___1___1___1___1_1 q4_Z___1___1___1___1_1 k4_Z___1___1___1___1_2 q4_Z___1___1___1___1_2 k4_Z___1___1___1___1_3 q4_Z___1___1___1___1_3 k4_Z___1___1___1___1_4 q4_Z___1___1___1___1_4
                              dsimp only
                              have hl : (wantO true nn g).length = nn := shufAt_len _ _ _
                              have OF := Lib.hid (own_row5 (own_base or4.out (base' := Z + 6) (by omega)) (b := Z + 1 + 1 + 1 + 1) (by omega) (.slice a4 m4 d4) (.int .u64 p4) (.int .u64 q4) (.int .u64 t4) (.int .u64 u4))
                              have SF := Lib.hid ((ST.out.ext x4).putO hZ rfl (.slice a4 m4 d4) (.int .u64 p4) (.int .u64 q4) (.int .u64 t4) (.int .u64 u4))
                              have XF := Lib.hid ((OX.out.ext x4).set5 (r := Z + 1 + 1 + 1 + 1) (by omega) (.slice a4 m4 d4) (.int .u64 p4) (.int .u64 q4) (.int .u64 t4) (.int .u64 u4))
                              have YF := Lib.hid ((OY.out.ext x4).set5 (r := Z + 1 + 1 + 1 + 1) (by omega) (.slice a4 m4 d4) (.int .u64 p4) (.int .u64 q4) (.int .u64 t4) (.int .u64 u4))
                              have hx4 := x4
                              clear SHR x4
                              go_wp2_with fail
                              go_meet
                              exact ⟨oa4, nn, oc4, a4, m4, d4, p4, q4, t4, u4, rfl, SF, XF, YF, Lib.hid (by rw [hl]; exact OF.out), rg4⟩
                          case rest => as_aux_lemma =>
                            obtain ⟨oO, nO, kO, aO, mO, cO, pO, qO, tO, uO, rfl, stO, oX3, oY3, RO, rO⟩ := hcut
                            clear ST OX OY
                            have ST := stO
                            have OX := oX3
                            have OY := oY3
                            have xwb4 : Ext wo wc := x12.tr ST.out.x
                            clear stO oX3 oY3 xwb3
                            obtain ⟨W3, rfl⟩ : ∃ W3 : World, W3 = wc := ⟨_, rfl⟩
                            go_upto_if 122 with fail
                            go_cut [13] from 121 to 132 (fun s13 wx => ∃ (oa : Option Addr) (on oc : Nat) (a : Option Addr) (m c : Nat) (p q t u : Int), s13 = .slice oa on oc ∧ Hid (SeSt v2 wx Z #[.slice saX snX scX, .slice daX dnX dcX] #[.slice saY snY scY, .slice daY dnY dcY] #[.slice aX mX cX, .int .u64 pX, .int .u64 qX, .int .u64 tX, .int .u64 uX] #[.slice aY mY cY, .int .u64 pY, .int .u64 qY, .int .u64 tY, .int .u64 uY] #[.slice aO mO cO, .int .u64 pO, .int .u64 qO, .int .u64 tO, .int .u64 uO] #[.slice a m c, .int .u64 p, .int .u64 q, .int .u64 t, .int .u64 u]) ∧ Hid (OwnT (Z + 6) wx (.slice saX snX scX) (.slice daX dnX dcX) (wantS A ss) (wantD A zX n g)) ∧ Hid (OwnT (Z + 6) wx (.slice saY snY scY) (.slice daY dnY dcY) (wantS B ss) (wantD B zY n g)) ∧ Hid (wx.ownsRow (Z + 6) 3 1 (.slice oO nO kO) (wantO C nn g).length ((wantO C nn g).map (Value.int .i64))) ∧ Hid (wx.ownsRow (Z + 6) 3 1 (.slice oa on oc) (wantM D P nn g).length ((wantM D P nn g).map (Value.int .i64))) ∧ Hid (RandAt wo (.agg #[.slice a m c, .int .u64 p, .int .u64 q, .int .u64 t, .int .u64 u]) (wantU D P nn g)))
                            case first => as_aux_lemma =>
                              obtain ⟨k0, k1, k2, k3, k4, k5, k6, k7, k8, k9, k10⟩ := ask_blk (B2.out.ext ST.out.x)
                              have zk := (B2.out.ext ST.out.x).lt
                              cases D
                              · clear k0 k1 k2 k3 k4 k5 k6 k7 k8 k9 k10
                                go_wp2_with fail
                                go_meet
                                exact ⟨none, 0, 0, none, 0, 0, 0, 0, 0, 0, rfl, ST, OX, OY, RO, Lib.hid (World.ownsRow_nil _ _ _ _), Lib.hid (gen00_at _)⟩
                              · have hA := HDX.out
                                simp only [Bool.and_eq_true] at hA
                                obtain ⟨⟨y1, y3⟩, -⟩ := hA
                                obtain ⟨z1, -, -, -, z5, -, -⟩ := EE.out
                                rw [y1] at z1
                                rw [y3] at z5
                                have eN := HNN.out z5
                                have b5 := z5
                                simp only [fanB, Bool.and_eq_true, decide_eq_true_eq] at b5
                                have SHR := Lib.hid (fun u (x : Ext wo u) => mask_ref (n := nn) (q := P) HR.out (OldAs.of_ext x) ⟨z1, HSC.out⟩ (by omega))
                                rw [← eN] at SHR
                                have lz0 := (ST.out.b17.cell 0).trans (show (#[.slice none 0 0, .int .u64 0, .int .u64 0, .int .u64 0, .int .u64 0] : Array Value)[0]? = some (.slice none 0 0) from rfl)
                                have lzf0 := ST.out.b17.frozen 0
                                have lz1 := (ST.out.b17.cell 1).trans (show (#[.slice none 0 0, .int .u64 0, .int .u64 0, .int .u64 0, .int .u64 0] : Array Value)[1]? = some (.int .u64 0) from rfl)
                                have lzf1 := ST.out.b17.frozen 1
                                have lz2 := (ST.out.b17.cell 2).trans (show (#[.slice none 0 0, .int .u64 0, .int .u64 0, .int .u64 0, .int .u64 0] : Array Value)[2]? = some (.int .u64 0) from rfl)
                                have lzf2 := ST.out.b17.frozen 2
                                have lz3 := (ST.out.b17.cell 3).trans (show (#[.slice none 0 0, .int .u64 0, .int .u64 0, .int .u64 0, .int .u64 0] : Array Value)[3]? = some (.int .u64 0) from rfl)
                                have lzf3 := ST.out.b17.frozen 3
                                have lz4 := (ST.out.b17.cell 4).trans (show (#[.slice none 0 0, .int .u64 0, .int .u64 0, .int .u64 0, .int .u64 0] : Array Value)[4]? = some (.int .u64 0) from rfl)
                                have lzf4 := ST.out.b17.frozen 4
                                have zv := ST.out.b17.lt
                                clear z1 z5 b5 eN
                                go_wp2_with fail
                                go_wp2_with fail; refine (SHR.out _ Ext.q).mono ?_; rintro e v4 ⟨oa4, oc4, a4, m4, d4, p4, q4, t4, u4, rfl, x4, or4, rg4⟩; obtain ⟨c4, f4⟩ := x4.rules; have z4 := x4.size; have lq := fun o => c4 (Z + 1 + 1 + 1 + 1 + 1) o (by first | (simp; done) | (simp; omega) | omega); have mq := fun o => f4 (Z + 1 + 1 + 1 + 1 + 1) o (by first | (simp; done) | (simp; omega) | omega); have k4_Z___1___1___1___1___1_0 := lq 0; have q4_Z___1___1___1___1___1_0 := mq 0; have k4_Z___1___1___1___1___1_1 := lq 1; have q4_Z___1___1___1___1___1_1 := mq 1; have k4_Z___1___1___1___1___1_2 := lq 2; have q4_Z___1___1___1___1___1_2 := mq 2; have k4_Z___1___1___1___1___1_3 := lq 3; have q4_Z___1___1___1___1___1_3 := mq 3; have k4_Z___1___1___1___1___1_4 := lq 4; have q4_Z___1___1___1___1___1_4 := mq 4; clear lq mq; have z4_Z : Z < v4.heap.size := (by (try simp at z4); omega); have z4_Z___1 : Z + 1 < v4.heap.size := (by (try simp at z4); omega); have z4_Z___1___1 : Z + 1 + 1 < v4.heap.size := (by (try simp at z4); omega); have z4_Z___1___1___1 : Z + 1 + 1 + 1 < v4.heap.size := (by (try simp at z4); omega); have z4_Z___1___1___1___1 : Z + 1 + 1 + 1 + 1 < v4.heap.size := (by (try simp at z4); omega); have z4_Z___1___1___1___1___1 : Z + 1 + 1 + 1 + 1 + 1 < v4.heap.size := (by (try simp at z4); omega); (try simp at z4); clear c4 f4; simp [go_sem, *] at k4_Z___1___1___1___1___1_0 q4_Z___1___1___1___1___1_0 k4_Z___1___1___1___1___1_1 q4_Z___1___1___1___1___1_1 k4_Z___1___1___1___1___1_2 q4_Z___1___1___1___1___1_2 k4_Z___1___1___1___1___1_3 q4_Z___1___1___1___1___1_3 k4_Z___1___1___1___1___1_4 q4_Z___1___1___1___1___1_4
                                dsimp only
                                have hl : (wantM true P nn g).length = nn := (by show (masks P nn [] g).1.length = nn; rw [masks_len]; simp)
                                have OF := Lib.hid (own_row5 (own_base or4.out (base' := Z + 6) (by omega)) (b := Z + 1 + 1 + 1 + 1 + 1) (by omega) (.slice a4 m4 d4) (.int .u64 p4) (.int .u64 q4) (.int .u64 t4) (.int .u64 u4))
                                have SF := Lib.hid ((ST.out.ext x4).putM hZ rfl (.slice a4 m4 d4) (.int .u64 p4) (.int .u64 q4) (.int .u64 t4) (.int .u64 u4))
                                have XF := Lib.hid ((OX.out.ext x4).set5 (r := Z + 1 + 1 + 1 + 1 + 1) (by omega) (.slice a4 m4 d4) (.int .u64 p4) (.int .u64 q4) (.int .u64 t4) (.int .u64 u4))
                                have YF := Lib.hid ((OY.out.ext x4).set5 (r := Z + 1 + 1 + 1 + 1 + 1) (by omega) (.slice a4 m4 d4) (.int .u64 p4) (.int .u64 q4) (.int .u64 t4) (.int .u64 u4))
                                have RF := Lib.hid (own_row5 (own_old RO.out x4) (b := Z + 1 + 1 + 1 + 1 + 1) (by omega) (.slice a4 m4 d4) (.int .u64 p4) (.int .u64 q4) (.int .u64 t4) (.int .u64 u4))
                                have hx4 := x4
                                clear SHR x4
                                go_wp2_with fail
                                go_meet
                                exact ⟨oa4, nn, oc4, a4, m4, d4, p4, q4, t4, u4, rfl, SF, XF, YF, RF, Lib.hid (by rw [hl]; exact OF.out), rg4⟩
                            case rest => as_aux_lemma =>
                              obtain ⟨oM, nM, kM, aM, mM, cM, pM, qM, tM, uM, rfl, stM, oX4, oY4, rO4, RM, rM⟩ := hcut
                              clear ST OX OY RO
                              have ST := stM
                              have OX := oX4
                              have OY := oY4
                              have RO := rO4
                              have xw0 : Ext wo wc := x12.tr ST.out.x
                              clear stM oX4 oY4 rO4 xwb4
                              obtain ⟨W0, rfl⟩ : ∃ W0 : World, W0 = wc := ⟨_, rfl⟩
                              have hA9 : A = (goodG g && shp ss && fanB In && fanB Out && gdF F) := by
                                obtain ⟨z1, z2, z3, z4, -, z5, -⟩ := EE.out
                                rw [z1, z2, z3, z4, z5]; exact HAX.out.symm
                              have HNA : Hid (A = true → ss.length ≤ 100000 ∧ n ≤ 100000) := Lib.hid fun h => by
                                rw [hA9] at h
                                simp only [Bool.and_eq_true] at h
                                exact shp_small h.1.1.1.2 (HN.out h.1.1.1.2)
                              have XV := Lib.hid (fun u (x : Ext wo u) => xavier_all (HR.out.ext x) HSC.out (HS.out.ext x) A hA9 n HN.out zX hzX.out)
                              rw [← EAX.out] at XV
                              obtain ⟨k0, k1, k2, k3, k4, k5, k6, k7, k8, k9, k10⟩ := ask_blk (B2.out.ext ST.out.x)
                              have zk := (B2.out.ext ST.out.x).lt
                              clear hA9
                              go_wp2_with fail
                              refine (XV.out _ Ext.q).mono ?_; rintro e v5 ⟨sa5, sn5, sc5, da5, dn5, dc5, a5, m5, d5, p5, q5, t5, u5, rfl, x5, tn5, rn5⟩; obtain ⟨c5, f5⟩ := x5.rules; have z5 := x5.size
                              dsimp only
                              go_upto_region 33 with fail
                              have X5 : Ext v5 ((v5.alloc (.cells #[.slice sa5 sn5 sc5, .slice da5 dn5 dc5] 26)).alloc (.cells #[.slice a5 m5 d5, .int .u64 p5, .int .u64 q5, .int .u64 t5, .int .u64 u5] 62)) := (Ext.alloc (Ext.refl v5) _).alloc _
                              have XW := Lib.hid (x5.tr X5)
                              have B18 := Lib.hid ((Blk.new v5 26 #[.slice sa5 sn5 sc5, .slice da5 dn5 dc5]).alloc (.cells #[.slice a5 m5 d5, .int .u64 p5, .int .u64 q5, .int .u64 t5, .int .u64 u5] 62))
                              have B19 : Hid (Blk ((v5.alloc (.cells #[.slice sa5 sn5 sc5, .slice da5 dn5 dc5] 26)).alloc (.cells #[.slice a5 m5 d5, .int .u64 p5, .int .u64 q5, .int .u64 t5, .int .u64 u5] 62)) (v5.heap.size + 1) 62 #[.slice a5 m5 d5, .int .u64 p5, .int .u64 q5, .int .u64 t5, .int .u64 u5]) := Lib.hid (by have := Blk.new (v5.alloc (.cells #[.slice sa5 sn5 sc5, .slice da5 dn5 dc5] 26)) 62 #[.slice a5 m5 d5, .int .u64 p5, .int .u64 q5, .int .u64 t5, .int .u64 u5]; simpa using this)
                              have TN := Lib.hid (tn5.out.ext X5)
                              have RN := Lib.hid (rn5.out.ext X5)
                              have PL : Hid (∀ b, ((Value.slice sa5 sn5 sc5).ownBlock = some b ∨ (Value.slice da5 dn5 dc5).ownBlock = some b) → W0.heap.size ≤ b ∧ b ≠ v5.heap.size ∧ b ≠ v5.heap.size + 1) := Lib.hid fun b hb => by
                                have h : W0.heap.size + 1 ≤ b ∧ b < v5.heap.size := hb.elim (fun h => tn5.out.rs.lt b h) (fun h => tn5.out.rd.lt b h)
                                omega
                              have z50 : W0.heap.size ≤ v5.heap.size := x5.size
                              have ZW : Z + 5 < W0.heap.size := ST.out.b17.lt
                              have hb19 := B19.out.lt
                              have TB : Hid (∃ base, base ≤ (((v5.alloc (.cells #[.slice sa5 sn5 sc5, .slice da5 dn5 dc5] 26)).alloc (.cells #[.slice a5 m5 d5, .int .u64 p5, .int .u64 q5, .int .u64 t5, .int .u64 u5] 62))).heap.size ∧ TenNew base ((v5.alloc (.cells #[.slice sa5 sn5 sc5, .slice da5 dn5 dc5] 26)).alloc (.cells #[.slice a5 m5 d5, .int .u64 p5, .int .u64 q5, .int .u64 t5, .int .u64 u5] 62)) (.slice sa5 sn5 sc5) (.slice da5 dn5 dc5) (wantS A ss) (wantD A zX n g)) := Lib.hid ⟨W0.heap.size + 1, by omega, TN.out⟩
                              have RQ := Lib.hid RN.out.at
                              clear k0 k1 k2 k3 k4 k5 k6 k7 k8 k9 k10 x5 tn5 rn5 X5 XV TN RN hb19
                              generalize ((v5.alloc (.cells #[.slice sa5 sn5 sc5, .slice da5 dn5 dc5] 26)).alloc (.cells #[.slice a5 m5 d5, .int .u64 p5, .int .u64 q5, .int .u64 t5, .int .u64 u5] 62)) = W1 at *
                              generalize v5.heap.size = T8 at *
                              go_cut [159] from 148 to 159 (fun sl wx => sl = .bool false ∧ Hid (Ext W0 wx) ∧ Hid (Blk wx T8 26 #[.slice sa5 sn5 sc5, .slice da5 dn5 dc5]) ∧ Hid (Blk wx (T8 + 1) 62 #[.slice a5 m5 d5, .int .u64 p5, .int .u64 q5, .int .u64 t5, .int .u64 u5]))
                              case first => as_aux_lemma =>
                                have ST1 := Lib.hid (ST.out.ext XW.out)
                                have ER := Lib.hid (fun u (x : Ext W1 u) => eq_rand (g := wantG A zX n g) (RQ.out.ext x) ((rX.out.ext (xw0.tr XW.out)).ext x))
                                obtain ⟨base, hbase, TN⟩ := TB.out
                                have zt := B19.out.lt
                                have zs := ST1.out.b17.lt
                                have hbs : base ≤ W1.heap.size := hbase
                                have IS := Lib.hid (fun u (x : Ext W1 u) => is8_all A (TN.ext x) HNA.out (Nat.le_trans hbs x.size) ((OX.out.row_s.ext XW.out).ext x) ((OX.out.row_d.ext XW.out).ext x))
                                rw [← EAX.out] at IS
                                have ka0 := (B18.out.cell 0).trans (show (#[.slice sa5 sn5 sc5, .slice da5 dn5 dc5] : Array Value)[0]? = some (.slice sa5 sn5 sc5) from rfl)
                                have ka1 := (B18.out.cell 1).trans (show (#[.slice sa5 sn5 sc5, .slice da5 dn5 dc5] : Array Value)[1]? = some (.slice da5 dn5 dc5) from rfl)
                                have kb0 := (B19.out.cell 0).trans (show (#[.slice a5 m5 d5, .int .u64 p5, .int .u64 q5, .int .u64 t5, .int .u64 u5] : Array Value)[0]? = some (.slice a5 m5 d5) from rfl)
                                have kb1 := (B19.out.cell 1).trans (show (#[.slice a5 m5 d5, .int .u64 p5, .int .u64 q5, .int .u64 t5, .int .u64 u5] : Array Value)[1]? = some (.int .u64 p5) from rfl)
                                have kb2 := (B19.out.cell 2).trans (show (#[.slice a5 m5 d5, .int .u64 p5, .int .u64 q5, .int .u64 t5, .int .u64 u5] : Array Value)[2]? = some (.int .u64 q5) from rfl)
                                have kb3 := (B19.out.cell 3).trans (show (#[.slice a5 m5 d5, .int .u64 p5, .int .u64 q5, .int .u64 t5, .int .u64 u5] : Array Value)[3]? = some (.int .u64 t5) from rfl)
                                have kb4 := (B19.out.cell 4).trans (show (#[.slice a5 m5 d5, .int .u64 p5, .int .u64 q5, .int .u64 t5, .int .u64 u5] : Array Value)[4]? = some (.int .u64 u5) from rfl)
                                have kc0 := (ST1.out.b14.cell 0).trans (show (#[.slice aX mX cX, .int .u64 pX, .int .u64 qX, .int .u64 tX, .int .u64 uX] : Array Value)[0]? = some (.slice aX mX cX) from rfl)
                                have kc1 := (ST1.out.b14.cell 1).trans (show (#[.slice aX mX cX, .int .u64 pX, .int .u64 qX, .int .u64 tX, .int .u64 uX] : Array Value)[1]? = some (.int .u64 pX) from rfl)
                                have kc2 := (ST1.out.b14.cell 2).trans (show (#[.slice aX mX cX, .int .u64 pX, .int .u64 qX, .int .u64 tX, .int .u64 uX] : Array Value)[2]? = some (.int .u64 qX) from rfl)
                                have kc3 := (ST1.out.b14.cell 3).trans (show (#[.slice aX mX cX, .int .u64 pX, .int .u64 qX, .int .u64 tX, .int .u64 uX] : Array Value)[3]? = some (.int .u64 tX) from rfl)
                                have kc4 := (ST1.out.b14.cell 4).trans (show (#[.slice aX mX cX, .int .u64 pX, .int .u64 qX, .int .u64 tX, .int .u64 uX] : Array Value)[4]? = some (.int .u64 uX) from rfl)
                                have kd0 := (ST1.out.b10.cell 0).trans (show (#[.slice saX snX scX, .slice daX dnX dcX] : Array Value)[0]? = some (.slice saX snX scX) from rfl)
                                have kd1 := (ST1.out.b10.cell 1).trans (show (#[.slice saX snX scX, .slice daX dnX dcX] : Array Value)[1]? = some (.slice daX dnX dcX) from rfl)
                                clear TN
                                go_wp2_with fail
                                refine (ER.out _ Ext.q).mono ?_; rintro e v6 ⟨rfl, x6⟩; obtain ⟨c6, f6⟩ := x6.rules; have z6 := x6.size; have lq := fun o => c6 (T8) o (by first | (simp; done) | (simp; omega) | omega); have mq := fun o => f6 (T8) o (by first | (simp; done) | (simp; omega) | omega); have k6_T8_0 := lq 0; have q6_T8_0 := mq 0; have k6_T8_1 := lq 1; have q6_T8_1 := mq 1; clear lq mq; have lq := fun o => c6 (Z) o (by first | (simp; done) | (simp; omega) | omega); have mq := fun o => f6 (Z) o (by first | (simp; done) | (simp; omega) | omega); have k6_Z_0 := lq 0; have q6_Z_0 := mq 0; have k6_Z_1 := lq 1; have q6_Z_1 := mq 1; clear lq mq; have z6_T8 : T8 < v6.heap.size := (by (try simp at z6); omega); have z6_Z : Z < v6.heap.size := (by (try simp at z6); omega); (try simp at z6); clear c6 f6; simp [go_sem, *] at k6_T8_0 q6_T8_0 k6_T8_1 q6_T8_1 k6_Z_0 q6_Z_0 k6_Z_1 q6_Z_1
                                go_wp2_with fail
                                refine (IS.out _ Ext.q).mono ?_
                                rintro e v7 ⟨rfl, sp7⟩
                                dsimp only
                                have C18 := Lib.hid (sp7.blk (B18.out.ext x6) (fun h => (PL.out _ h).2.1 rfl))
                                have C19 := Lib.hid (sp7.blk (B19.out.ext x6) (fun h => (PL.out _ h).2.2 rfl))
                                have XW7 := Lib.hid (sp7.ext (XW.out.tr x6) (fun i hi hp => absurd (PL.out _ hp).1 (Nat.not_le.2 hi)))
                                clear x6 sp7 IS ER
                                go_wp2_with fail
                                go_meet
                                exact ⟨rfl, XW7, C18, C19⟩
                              case rest => as_aux_lemma =>
                                obtain ⟨rfl, XWn, C18n, C19n⟩ := hcut
                                clear B18 B19 XW PL TB RQ c5 f5 KP XVB
                                have XW := XWn
                                have B18 := C18n
                                have B19 := C19n
                                clear XWn C18n C19n
                                obtain ⟨W2, rfl⟩ : ∃ W2 : World, W2 = wc := ⟨_, rfl⟩
                                have hB9 : B = (goodG g && shp ss && fanB In && gdF F) := by
                                  obtain ⟨z1, z2, z3, z4, -, z5, -⟩ := EE.out
                                  rw [z1, z2, z3, z5]; exact HBX.out.symm
                                have HNB : Hid (B = true → ss.length ≤ 100000 ∧ n ≤ 100000) := Lib.hid fun h => by
                                  rw [hB9] at h
                                  simp only [Bool.and_eq_true] at h
                                  exact shp_small h.1.1.2 (HN.out h.1.1.2)
                                have XV := Lib.hid (fun u (x : Ext wo u) => he_all (HR.out.ext x) HSC.out (HS.out.ext x) B hB9 n HN.out zY hzY.out)
                                rw [← EBX.out] at XV
                                obtain ⟨k0, k1, k2, k3, k4, k5, k6, k7, k8, k9, k10⟩ := ask_blk (B2.out.ext (ST.out.x.tr XW.out))
                                have zk := (B2.out.ext (ST.out.x.tr XW.out)).lt
                                have xw := xw0.tr XW.out
                                have zt := B19.out.lt
                                clear hB9
                                have ka0 := (B18.out.cell 0).trans (show (#[.slice sa5 sn5 sc5, .slice da5 dn5 dc5] : Array Value)[0]? = some (.slice sa5 sn5 sc5) from rfl)
                                have kaf0 := B18.out.frozen 0
                                have ka1 := (B18.out.cell 1).trans (show (#[.slice sa5 sn5 sc5, .slice da5 dn5 dc5] : Array Value)[1]? = some (.slice da5 dn5 dc5) from rfl)
                                have kaf1 := B18.out.frozen 1
                                have kb0 := (B19.out.cell 0).trans (show (#[.slice a5 m5 d5, .int .u64 p5, .int .u64 q5, .int .u64 t5, .int .u64 u5] : Array Value)[0]? = some (.slice a5 m5 d5) from rfl)
                                have kbf0 := B19.out.frozen 0
                                have kb1 := (B19.out.cell 1).trans (show (#[.slice a5 m5 d5, .int .u64 p5, .int .u64 q5, .int .u64 t5, .int .u64 u5] : Array Value)[1]? = some (.int .u64 p5) from rfl)
                                have kbf1 := B19.out.frozen 1
                                have kb2 := (B19.out.cell 2).trans (show (#[.slice a5 m5 d5, .int .u64 p5, .int .u64 q5, .int .u64 t5, .int .u64 u5] : Array Value)[2]? = some (.int .u64 q5) from rfl)
                                have kbf2 := B19.out.frozen 2
                                have kb3 := (B19.out.cell 3).trans (show (#[.slice a5 m5 d5, .int .u64 p5, .int .u64 q5, .int .u64 t5, .int .u64 u5] : Array Value)[3]? = some (.int .u64 t5) from rfl)
                                have kbf3 := B19.out.frozen 3
                                have kb4 := (B19.out.cell 4).trans (show (#[.slice a5 m5 d5, .int .u64 p5, .int .u64 q5, .int .u64 t5, .int .u64 u5] : Array Value)[4]? = some (.int .u64 u5) from rfl)
                                have kbf4 := B19.out.frozen 4
                                go_wp2_with fail
                                refine (XV.out _ Ext.q).mono ?_; rintro e v8 ⟨sa8, sn8, sc8, da8, dn8, dc8, a8, m8, d8, p8, q8, t8, u8, rfl, x8, tn8, rn8⟩; obtain ⟨c8, f8⟩ := x8.rules; have z8 := x8.size; have lq := fun o => c8 (T8) o (by first | (simp; done) | (simp; omega) | omega); have mq := fun o => f8 (T8) o (by first | (simp; done) | (simp; omega) | omega); have k8_T8_0 := lq 0; have q8_T8_0 := mq 0; have k8_T8_1 := lq 1; have q8_T8_1 := mq 1; clear lq mq; have lq := fun o => c8 (T8 + 1) o (by first | (simp; done) | (simp; omega) | omega); have mq := fun o => f8 (T8 + 1) o (by first | (simp; done) | (simp; omega) | omega); have k8_T8___1_0 := lq 0; have q8_T8___1_0 := mq 0; have k8_T8___1_1 := lq 1; have q8_T8___1_1 := mq 1; have k8_T8___1_2 := lq 2; have q8_T8___1_2 := mq 2; have k8_T8___1_3 := lq 3; have q8_T8___1_3 := mq 3; have k8_T8___1_4 := lq 4; have q8_T8___1_4 := mq 4; clear lq mq; have z8_T8 : T8 < v8.heap.size := (by (try simp at z8); omega); have z8_T8___1 : T8 + 1 < v8.heap.size := (by (try simp at z8); omega); (try simp at z8); clear c8 f8; simp [go_sem, *] at k8_T8_0 q8_T8_0 k8_T8_1 q8_T8_1 k8_T8___1_0 q8_T8___1_0 k8_T8___1_1 q8_T8___1_1 k8_T8___1_2 q8_T8___1_2 k8_T8___1_3 q8_T8___1_3 k8_T8___1_4 q8_T8___1_4
                                dsimp only
                                go_upto_region 36 with fail
                                have zw : T8 + 1 < W2.heap.size := B19.out.lt
                                have zx8 := x8.size
                                have XW2 := Lib.hid (ext7 (t := T8) (r := T8 + 1) (XW.out.tr x8) z50 (by omega) (.slice sa8 sn8 sc8) (.slice da8 dn8 dc8) (.slice a8 m8 d8) (.int .u64 p8) (.int .u64 q8) (.int .u64 t8) (.int .u64 u8))
                                have C18 := Lib.hid (put7t (r := T8 + 1) (B18.out.ext x8) (by omega) (.slice sa8 sn8 sc8) (.slice da8 dn8 dc8) (.slice a8 m8 d8) (.int .u64 p8) (.int .u64 q8) (.int .u64 t8) (.int .u64 u8))
                                have C19 := Lib.hid (put7r (t := T8) (B19.out.ext x8) (by omega) (.slice sa8 sn8 sc8) (.slice da8 dn8 dc8) (.slice a8 m8 d8) (.int .u64 p8) (.int .u64 q8) (.int .u64 t8) (.int .u64 u8))
                                have TN := tn8.out.set7 (t := T8) (r := T8 + 1) (by omega) (by omega) (.slice sa8 sn8 sc8) (.slice da8 dn8 dc8) (.slice a8 m8 d8) (.int .u64 p8) (.int .u64 q8) (.int .u64 t8) (.int .u64 u8)
                                have RQ := Lib.hid (rn8.out.set7 (t := T8) (r := T8 + 1) (by omega) (by omega) (.slice sa8 sn8 sc8) (.slice da8 dn8 dc8) (.slice a8 m8 d8) (.int .u64 p8) (.int .u64 q8) (.int .u64 t8) (.int .u64 u8)).at
                                have hz7 := C19.out.lt
                                have PL : Hid (∀ b, ((Value.slice sa8 sn8 sc8).ownBlock = some b ∨ (Value.slice da8 dn8 dc8).ownBlock = some b) → W0.heap.size ≤ b ∧ b ≠ T8 ∧ b ≠ T8 + 1) := Lib.hid fun b hb => by
                                  have h : W2.heap.size + 1 ≤ b ∧ b < v8.heap.size := hb.elim (fun h => tn8.out.rs.lt b h) (fun h => tn8.out.rd.lt b h)
                                  omega
                                have TB : Hid (∃ base, base ≤ ((((((((v8.setCell ⟨T8, 0, none⟩ (.slice sa8 sn8 sc8)).setCell ⟨T8, 1, none⟩ (.slice da8 dn8 dc8)).setCell ⟨T8 + 1, 0, none⟩ (.slice a8 m8 d8)).setCell ⟨T8 + 1, 1, none⟩ (.int .u64 p8)).setCell ⟨T8 + 1, 2, none⟩ (.int .u64 q8)).setCell ⟨T8 + 1, 3, none⟩ (.int .u64 t8)).setCell ⟨T8 + 1, 4, none⟩ (.int .u64 u8))).heap.size ∧ TenNew base (((((((v8.setCell ⟨T8, 0, none⟩ (.slice sa8 sn8 sc8)).setCell ⟨T8, 1, none⟩ (.slice da8 dn8 dc8)).setCell ⟨T8 + 1, 0, none⟩ (.slice a8 m8 d8)).setCell ⟨T8 + 1, 1, none⟩ (.int .u64 p8)).setCell ⟨T8 + 1, 2, none⟩ (.int .u64 q8)).setCell ⟨T8 + 1, 3, none⟩ (.int .u64 t8)).setCell ⟨T8 + 1, 4, none⟩ (.int .u64 u8)) (.slice sa8 sn8 sc8) (.slice da8 dn8 dc8) (wantS B ss) (wantD B zY n g)) := Lib.hid ⟨T8 + 2, by omega, TN.base (by omega)⟩
                                clear k0 k1 k2 k3 k4 k5 k6 k7 k8 k9 k10 x8 tn8 rn8 XV TN B18 B19 XW zw zx8 hz7 ka0 kaf0 ka1 kaf1 kb0 kbf0 kb1 kbf1 kb2 kbf2 kb3 kbf3 kb4 kbf4
                                have XW := XW2
                                have B18 := C18
                                have B19 := C19
                                clear XW2 C18 C19
                                generalize (((((((v8.setCell ⟨T8, 0, none⟩ (.slice sa8 sn8 sc8)).setCell ⟨T8, 1, none⟩ (.slice da8 dn8 dc8)).setCell ⟨T8 + 1, 0, none⟩ (.slice a8 m8 d8)).setCell ⟨T8 + 1, 1, none⟩ (.int .u64 p8)).setCell ⟨T8 + 1, 2, none⟩ (.int .u64 q8)).setCell ⟨T8 + 1, 3, none⟩ (.int .u64 t8)).setCell ⟨T8 + 1, 4, none⟩ (.int .u64 u8)) = W3 at *
                                clear k8_T8_0 q8_T8_0 k8_T8_1 q8_T8_1 k8_T8___1_0 q8_T8___1_0 k8_T8___1_1 q8_T8___1_1 k8_T8___1_2 q8_T8___1_2 k8_T8___1_3 q8_T8___1_3 k8_T8___1_4 q8_T8___1_4 z8_T8 z8_T8___1
                                go_upto_region 36 with fail
                                go_cut [184] from 173 to 184 (fun sl wx => sl = .bool false ∧ Hid (Ext W0 wx) ∧ Hid (Blk wx T8 26 #[.slice sa8 sn8 sc8, .slice da8 dn8 dc8]) ∧ Hid (Blk wx (T8 + 1) 62 #[.slice a8 m8 d8, .int .u64 p8, .int .u64 q8, .int .u64 t8, .int .u64 u8]))
                                case first => as_aux_lemma =>
                                  have ST1 := Lib.hid (ST.out.ext XW.out)
                                  have ER := Lib.hid (fun u (x : Ext W3 u) => eq_rand (g := wantG B zY n g) (RQ.out.ext x) ((rY.out.ext (xw0.tr XW.out)).ext x))
                                  obtain ⟨base, hbase, TN⟩ := TB.out
                                  have zt := B19.out.lt
                                  have zs := ST1.out.b17.lt
                                  have hbs : base ≤ W3.heap.size := hbase
                                  have IS := Lib.hid (fun u (x : Ext W3 u) => is8_all B (TN.ext x) HNB.out (Nat.le_trans hbs x.size) ((OY.out.row_s.ext XW.out).ext x) ((OY.out.row_d.ext XW.out).ext x))
                                  rw [← EBX.out] at IS
                                  have ka0 := (B18.out.cell 0).trans (show (#[.slice sa8 sn8 sc8, .slice da8 dn8 dc8] : Array Value)[0]? = some (.slice sa8 sn8 sc8) from rfl)
                                  have ka1 := (B18.out.cell 1).trans (show (#[.slice sa8 sn8 sc8, .slice da8 dn8 dc8] : Array Value)[1]? = some (.slice da8 dn8 dc8) from rfl)
                                  have kb0 := (B19.out.cell 0).trans (show (#[.slice a8 m8 d8, .int .u64 p8, .int .u64 q8, .int .u64 t8, .int .u64 u8] : Array Value)[0]? = some (.slice a8 m8 d8) from rfl)
                                  have kb1 := (B19.out.cell 1).trans (show (#[.slice a8 m8 d8, .int .u64 p8, .int .u64 q8, .int .u64 t8, .int .u64 u8] : Array Value)[1]? = some (.int .u64 p8) from rfl)
                                  have kb2 := (B19.out.cell 2).trans (show (#[.slice a8 m8 d8, .int .u64 p8, .int .u64 q8, .int .u64 t8, .int .u64 u8] : Array Value)[2]? = some (.int .u64 q8) from rfl)
                                  have kb3 := (B19.out.cell 3).trans (show (#[.slice a8 m8 d8, .int .u64 p8, .int .u64 q8, .int .u64 t8, .int .u64 u8] : Array Value)[3]? = some (.int .u64 t8) from rfl)
                                  have kb4 := (B19.out.cell 4).trans (show (#[.slice a8 m8 d8, .int .u64 p8, .int .u64 q8, .int .u64 t8, .int .u64 u8] : Array Value)[4]? = some (.int .u64 u8) from rfl)
                                  have kc0 := (ST1.out.b15.cell 0).trans (show (#[.slice aY mY cY, .int .u64 pY, .int .u64 qY, .int .u64 tY, .int .u64 uY] : Array Value)[0]? = some (.slice aY mY cY) from rfl)
                                  have kc1 := (ST1.out.b15.cell 1).trans (show (#[.slice aY mY cY, .int .u64 pY, .int .u64 qY, .int .u64 tY, .int .u64 uY] : Array Value)[1]? = some (.int .u64 pY) from rfl)
                                  have kc2 := (ST1.out.b15.cell 2).trans (show (#[.slice aY mY cY, .int .u64 pY, .int .u64 qY, .int .u64 tY, .int .u64 uY] : Array Value)[2]? = some (.int .u64 qY) from rfl)
                                  have kc3 := (ST1.out.b15.cell 3).trans (show (#[.slice aY mY cY, .int .u64 pY, .int .u64 qY, .int .u64 tY, .int .u64 uY] : Array Value)[3]? = some (.int .u64 tY) from rfl)
                                  have kc4 := (ST1.out.b15.cell 4).trans (show (#[.slice aY mY cY, .int .u64 pY, .int .u64 qY, .int .u64 tY, .int .u64 uY] : Array Value)[4]? = some (.int .u64 uY) from rfl)
                                  have kd0 := (ST1.out.b11.cell 0).trans (show (#[.slice saY snY scY, .slice daY dnY dcY] : Array Value)[0]? = some (.slice saY snY scY) from rfl)
                                  have kd1 := (ST1.out.b11.cell 1).trans (show (#[.slice saY snY scY, .slice daY dnY dcY] : Array Value)[1]? = some (.slice daY dnY dcY) from rfl)
                                  clear TN
                                  go_wp2_with fail
                                  refine (ER.out _ Ext.q).mono ?_; rintro e v6 ⟨rfl, x6⟩; obtain ⟨c6, f6⟩ := x6.rules; have z6 := x6.size; have lq := fun o => c6 (T8) o (by first | (simp; done) | (simp; omega) | omega); have mq := fun o => f6 (T8) o (by first | (simp; done) | (simp; omega) | omega); have k6_T8_0 := lq 0; have q6_T8_0 := mq 0; have k6_T8_1 := lq 1; have q6_T8_1 := mq 1; clear lq mq; have lq := fun o => c6 (Z + 1) o (by first | (simp; done) | (simp; omega) | omega); have mq := fun o => f6 (Z + 1) o (by first | (simp; done) | (simp; omega) | omega); have k6_Z___1_0 := lq 0; have q6_Z___1_0 := mq 0; have k6_Z___1_1 := lq 1; have q6_Z___1_1 := mq 1; clear lq mq; have z6_T8 : T8 < v6.heap.size := (by (try simp at z6); omega); have z6_Z : Z < v6.heap.size := (by (try simp at z6); omega); have z6_Z___1 : Z + 1 < v6.heap.size := (by (try simp at z6); omega); (try simp at z6); clear c6 f6; simp [go_sem, *] at k6_T8_0 q6_T8_0 k6_T8_1 q6_T8_1 k6_Z___1_0 q6_Z___1_0 k6_Z___1_1 q6_Z___1_1
                                  go_wp2_with fail
                                  refine (IS.out _ Ext.q).mono ?_
                                  rintro e v7 ⟨rfl, sp7⟩
                                  dsimp only
                                  have C18 := Lib.hid (sp7.blk (B18.out.ext x6) (fun h => (PL.out _ h).2.1 rfl))
                                  have C19 := Lib.hid (sp7.blk (B19.out.ext x6) (fun h => (PL.out _ h).2.2 rfl))
                                  have XW7 := Lib.hid (sp7.ext (XW.out.tr x6) (fun i hi hp => absurd (PL.out _ hp).1 (Nat.not_le.2 hi)))
                                  clear x6 sp7 IS ER
                                  go_wp2_with fail
                                  go_meet
                                  exact ⟨rfl, XW7, C18, C19⟩
                                case rest => as_aux_lemma =>
                                  obtain ⟨rfl, XWn, C18n, C19n⟩ := hcut
                                  clear B18 B19 XW PL TB RQ
                                  have XW := XWn
                                  have B18 := C18n
                                  have B19 := C19n
                                  clear XWn C18n C19n
                                  obtain ⟨W4, rfl⟩ : ∃ W4 : World, W4 = wc := ⟨_, rfl⟩
                                  have hC9 : C = (goodG g && fanB N) := by
                                    obtain ⟨z1, -, -, -, z5, -, -⟩ := EE.out
                                    rw [z1, z5]; exact HCX.out.symm
                                  have XV := Lib.hid (fun u (x : Ext wo u) => shuf_all (HR.out.ext x) HSC.out C hC9 nn HNN.out)
                                  rw [← ECX.out] at XV
                                  obtain ⟨k0, k1, k2, k3, k4, k5, k6, k7, k8, k9, k10⟩ := ask_blk (B2.out.ext (ST.out.x.tr XW.out))
                                  have zk := (B2.out.ext (ST.out.x.tr XW.out)).lt
                                  have xw := xw0.tr XW.out
                                  have zt := B19.out.lt
                                  clear hC9
                                  have kb0 := (B19.out.cell 0).trans (show (#[.slice a8 m8 d8, .int .u64 p8, .int .u64 q8, .int .u64 t8, .int .u64 u8] : Array Value)[0]? = some (.slice a8 m8 d8) from rfl)
                                  have kbf0 := B19.out.frozen 0
                                  have kb1 := (B19.out.cell 1).trans (show (#[.slice a8 m8 d8, .int .u64 p8, .int .u64 q8, .int .u64 t8, .int .u64 u8] : Array Value)[1]? = some (.int .u64 p8) from rfl)
                                  have kbf1 := B19.out.frozen 1
                                  have kb2 := (B19.out.cell 2).trans (show (#[.slice a8 m8 d8, .int .u64 p8, .int .u64 q8, .int .u64 t8, .int .u64 u8] : Array Value)[2]? = some (.int .u64 q8) from rfl)
                                  have kbf2 := B19.out.frozen 2
                                  have kb3 := (B19.out.cell 3).trans (show (#[.slice a8 m8 d8, .int .u64 p8, .int .u64 q8, .int .u64 t8, .int .u64 u8] : Array Value)[3]? = some (.int .u64 t8) from rfl)
                                  have kbf3 := B19.out.frozen 3
                                  have kb4 := (B19.out.cell 4).trans (show (#[.slice a8 m8 d8, .int .u64 p8, .int .u64 q8, .int .u64 t8, .int .u64 u8] : Array Value)[4]? = some (.int .u64 u8) from rfl)
                                  have kbf4 := B19.out.frozen 4
                                  go_wp2_with fail
                                  refine (XV.out _ Ext.q).mono ?_; rintro e v8 ⟨oa8, on8, oc8, a8, m8, d8, p8, q8, t8, u8, rfl, x8, or8, rn8⟩; obtain ⟨c8, f8⟩ := x8.rules; have z8 := x8.size; have lq := fun o => c8 (T8 + 1) o (by first | (simp; done) | (simp; omega) | omega); have mq := fun o => f8 (T8 + 1) o (by first | (simp; done) | (simp; omega) | omega); have k8_T8___1_0 := lq 0; have q8_T8___1_0 := mq 0; have k8_T8___1_1 := lq 1; have q8_T8___1_1 := mq 1; have k8_T8___1_2 := lq 2; have q8_T8___1_2 := mq 2; have k8_T8___1_3 := lq 3; have q8_T8___1_3 := mq 3; have k8_T8___1_4 := lq 4; have q8_T8___1_4 := mq 4; clear lq mq; have z8_T8 : T8 < v8.heap.size := (by (try simp at z8); omega); have z8_T8___1 : T8 + 1 < v8.heap.size := (by (try simp at z8); omega); (try simp at z8); clear c8 f8; simp [go_sem, *] at k8_T8___1_0 q8_T8___1_0 k8_T8___1_1 q8_T8___1_1 k8_T8___1_2 q8_T8___1_2 k8_T8___1_3 q8_T8___1_3 k8_T8___1_4 q8_T8___1_4
                                  dsimp only
                                  go_upto_region 39 with fail
                                  have zw : T8 + 1 < W4.heap.size := B19.out.lt
                                  have XW2 := Lib.hid (own_ext5 (b := T8 + 1) (XW.out.tr x8) (by omega) (.slice a8 m8 d8) (.int .u64 p8) (.int .u64 q8) (.int .u64 t8) (.int .u64 u8))
                                  have C19 := Lib.hid (put5 (r := T8 + 1) (B19.out.ext x8) (.slice a8 m8 d8) (.int .u64 p8) (.int .u64 q8) (.int .u64 t8) (.int .u64 u8))
                                  have RQ := Lib.hid (rn8.out.set5 (b := T8 + 1) zw (.slice a8 m8 d8) (.int .u64 p8) (.int .u64 q8) (.int .u64 t8) (.int .u64 u8)).at
                                  have OQ := Lib.hid (own_row5 or8.out (b := T8 + 1) zw (.slice a8 m8 d8) (.int .u64 p8) (.int .u64 q8) (.int .u64 t8) (.int .u64 u8))
                                  clear k0 k1 k2 k3 k4 k5 k6 k7 k8 k9 k10 x8 or8 rn8 XV B19 XW zw kb0 kbf0 kb1 kbf1 kb2 kbf2 kb3 kbf3 kb4 kbf4
                                  have XW := XW2
                                  have B19 := C19
                                  clear XW2 C19
                                  generalize (((((v8.setCell ⟨T8 + 1, 0, none⟩ (.slice a8 m8 d8)).setCell ⟨T8 + 1, 1, none⟩ (.int .u64 p8)).setCell ⟨T8 + 1, 2, none⟩ (.int .u64 q8)).setCell ⟨T8 + 1, 3, none⟩ (.int .u64 t8)).setCell ⟨T8 + 1, 4, none⟩ (.int .u64 u8)) = W5 at *
                                  clear k8_T8___1_0 q8_T8___1_0 k8_T8___1_1 q8_T8___1_1 k8_T8___1_2 q8_T8___1_2 k8_T8___1_3 q8_T8___1_3 k8_T8___1_4 q8_T8___1_4 z8_T8___1
                                  go_cut [209] from 194 to 209 (fun sl wx => sl = .bool false ∧ Hid (Ext W0 wx) ∧ Hid (Blk wx (T8 + 1) 62 #[.slice a8 m8 d8, .int .u64 p8, .int .u64 q8, .int .u64 t8, .int .u64 u8]))
                                  case first => as_aux_lemma =>
                                    have ST1 := Lib.hid (ST.out.ext XW.out)
                                    have ER := Lib.hid (fun u (x : Ext W5 u) => eq_rand (g := wantT C nn g) (RQ.out.ext x) ((rO.out.ext (xw0.tr XW.out)).ext x))
                                    have EN : Hid (∀ u (x : Ext W5 u), Calls Tryz.prog 39 #[.slice oa8 on8 oc8, .slice oO nO kO] u fun e w' => e = .returned (.bool true) ∧ Ext u w') := Lib.hid fun u x => (eqNumbers_any ((Row.of_owns OQ.out).1.ext x) (((Row.of_owns RO.out).1.ext XW.out).ext x)).mono (by
                                      rintro e w' ⟨rfl, m, rfl⟩
                                      exact ⟨by simp, (Ext.refl _).drewN _⟩)
                                    have zt := B19.out.lt
                                    have zs := ST1.out.b17.lt
                                    have kb0 := (B19.out.cell 0).trans (show (#[.slice a8 m8 d8, .int .u64 p8, .int .u64 q8, .int .u64 t8, .int .u64 u8] : Array Value)[0]? = some (.slice a8 m8 d8) from rfl)
                                    have kb1 := (B19.out.cell 1).trans (show (#[.slice a8 m8 d8, .int .u64 p8, .int .u64 q8, .int .u64 t8, .int .u64 u8] : Array Value)[1]? = some (.int .u64 p8) from rfl)
                                    have kb2 := (B19.out.cell 2).trans (show (#[.slice a8 m8 d8, .int .u64 p8, .int .u64 q8, .int .u64 t8, .int .u64 u8] : Array Value)[2]? = some (.int .u64 q8) from rfl)
                                    have kb3 := (B19.out.cell 3).trans (show (#[.slice a8 m8 d8, .int .u64 p8, .int .u64 q8, .int .u64 t8, .int .u64 u8] : Array Value)[3]? = some (.int .u64 t8) from rfl)
                                    have kb4 := (B19.out.cell 4).trans (show (#[.slice a8 m8 d8, .int .u64 p8, .int .u64 q8, .int .u64 t8, .int .u64 u8] : Array Value)[4]? = some (.int .u64 u8) from rfl)
                                    have ke0 := (ST1.out.b16.cell 0).trans (show (#[.slice aO mO cO, .int .u64 pO, .int .u64 qO, .int .u64 tO, .int .u64 uO] : Array Value)[0]? = some (.slice aO mO cO) from rfl)
                                    have ke1 := (ST1.out.b16.cell 1).trans (show (#[.slice aO mO cO, .int .u64 pO, .int .u64 qO, .int .u64 tO, .int .u64 uO] : Array Value)[1]? = some (.int .u64 pO) from rfl)
                                    have ke2 := (ST1.out.b16.cell 2).trans (show (#[.slice aO mO cO, .int .u64 pO, .int .u64 qO, .int .u64 tO, .int .u64 uO] : Array Value)[2]? = some (.int .u64 qO) from rfl)
                                    have ke3 := (ST1.out.b16.cell 3).trans (show (#[.slice aO mO cO, .int .u64 pO, .int .u64 qO, .int .u64 tO, .int .u64 uO] : Array Value)[3]? = some (.int .u64 tO) from rfl)
                                    have ke4 := (ST1.out.b16.cell 4).trans (show (#[.slice aO mO cO, .int .u64 pO, .int .u64 qO, .int .u64 tO, .int .u64 uO] : Array Value)[4]? = some (.int .u64 uO) from rfl)
                                    go_wp2_with fail
                                    refine (ER.out _ Ext.q).mono ?_; rintro e v6 ⟨rfl, x6⟩; obtain ⟨c6, f6⟩ := x6.rules; have z6 := x6.size
                                    go_wp2_with fail; refine (num25_any _ _).mono ?_; rintro e w' ⟨rfl, rfl⟩
                                    go_wp2_with fail; refine (EN.out _ Ext.q).mono ?_; rintro e v7 ⟨rfl, x7⟩; obtain ⟨c7, f7⟩ := x7.rules; have z7 := x7.size
                                    have XW7 := Lib.hid (XW.out.tr (x6.tr x7))
                                    have C19 := Lib.hid (B19.out.ext (x6.tr x7))
                                    go_wp2_with fail
                                    go_meet
                                    exact ⟨rfl, XW7, C19⟩
                                  case rest => as_aux_lemma =>
                                    obtain ⟨rfl, XW5, C19n⟩ := hcut
                                    clear B19 XW RQ OQ
                                    have XW := XW5
                                    have B19 := C19n
                                    clear XW5 C19n
                                    obtain ⟨W6, rfl⟩ : ∃ W6 : World, W6 = wc := ⟨_, rfl⟩
                                    have hC9 : D = (goodG g && fanB N && (decide (0 ≤ P) && decide (P ≤ 99))) := by
                                      obtain ⟨z1, -, -, -, z5, -, z7⟩ := EE.out
                                      rw [z1, z5, z7]; exact HDX.out.symm
                                    have XV := Lib.hid (fun u (x : Ext wo u) => msk_all (HR.out.ext x) HSC.out D hC9 nn HNN.out)
                                    rw [← EDX.out] at XV
                                    obtain ⟨k0, k1, k2, k3, k4, k5, k6, k7, k8, k9, k10⟩ := ask_blk (B2.out.ext (ST.out.x.tr XW.out))
                                    have zk := (B2.out.ext (ST.out.x.tr XW.out)).lt
                                    have xw := xw0.tr XW.out
                                    have zt := B19.out.lt
                                    clear hC9
                                    have kb0 := (B19.out.cell 0).trans (show (#[.slice a8 m8 d8, .int .u64 p8, .int .u64 q8, .int .u64 t8, .int .u64 u8] : Array Value)[0]? = some (.slice a8 m8 d8) from rfl)
                                    have kbf0 := B19.out.frozen 0
                                    have kb1 := (B19.out.cell 1).trans (show (#[.slice a8 m8 d8, .int .u64 p8, .int .u64 q8, .int .u64 t8, .int .u64 u8] : Array Value)[1]? = some (.int .u64 p8) from rfl)
                                    have kbf1 := B19.out.frozen 1
                                    have kb2 := (B19.out.cell 2).trans (show (#[.slice a8 m8 d8, .int .u64 p8, .int .u64 q8, .int .u64 t8, .int .u64 u8] : Array Value)[2]? = some (.int .u64 q8) from rfl)
                                    have kbf2 := B19.out.frozen 2
                                    have kb3 := (B19.out.cell 3).trans (show (#[.slice a8 m8 d8, .int .u64 p8, .int .u64 q8, .int .u64 t8, .int .u64 u8] : Array Value)[3]? = some (.int .u64 t8) from rfl)
                                    have kbf3 := B19.out.frozen 3
                                    have kb4 := (B19.out.cell 4).trans (show (#[.slice a8 m8 d8, .int .u64 p8, .int .u64 q8, .int .u64 t8, .int .u64 u8] : Array Value)[4]? = some (.int .u64 u8) from rfl)
                                    have kbf4 := B19.out.frozen 4
                                    go_wp2_with fail
                                    refine (XV.out _ Ext.q).mono ?_; rintro e v8 ⟨oa8, on8, oc8, a8, m8, d8, p8, q8, t8, u8, rfl, x8, or8, rn8⟩; obtain ⟨c8, f8⟩ := x8.rules; have z8 := x8.size; have lq := fun o => c8 (T8 + 1) o (by first | (simp; done) | (simp; omega) | omega); have mq := fun o => f8 (T8 + 1) o (by first | (simp; done) | (simp; omega) | omega); have k8_T8___1_0 := lq 0; have q8_T8___1_0 := mq 0; have k8_T8___1_1 := lq 1; have q8_T8___1_1 := mq 1; have k8_T8___1_2 := lq 2; have q8_T8___1_2 := mq 2; have k8_T8___1_3 := lq 3; have q8_T8___1_3 := mq 3; have k8_T8___1_4 := lq 4; have q8_T8___1_4 := mq 4; clear lq mq; have z8_T8 : T8 < v8.heap.size := (by (try simp at z8); omega); have z8_T8___1 : T8 + 1 < v8.heap.size := (by (try simp at z8); omega); (try simp at z8); clear c8 f8; simp [go_sem, *] at k8_T8___1_0 q8_T8___1_0 k8_T8___1_1 q8_T8___1_1 k8_T8___1_2 q8_T8___1_2 k8_T8___1_3 q8_T8___1_3 k8_T8___1_4 q8_T8___1_4
                                    dsimp only
                                    go_upto_region 42 with fail
                                    have zw : T8 + 1 < W6.heap.size := B19.out.lt
                                    have XW2 := Lib.hid (own_ext5 (b := T8 + 1) (XW.out.tr x8) (by omega) (.slice a8 m8 d8) (.int .u64 p8) (.int .u64 q8) (.int .u64 t8) (.int .u64 u8))
                                    have C19 := Lib.hid (put5 (r := T8 + 1) (B19.out.ext x8) (.slice a8 m8 d8) (.int .u64 p8) (.int .u64 q8) (.int .u64 t8) (.int .u64 u8))
                                    have RQ := Lib.hid (rn8.out.set5 (b := T8 + 1) zw (.slice a8 m8 d8) (.int .u64 p8) (.int .u64 q8) (.int .u64 t8) (.int .u64 u8)).at
                                    have OQ := Lib.hid (own_row5 or8.out (b := T8 + 1) zw (.slice a8 m8 d8) (.int .u64 p8) (.int .u64 q8) (.int .u64 t8) (.int .u64 u8))
                                    clear k0 k1 k2 k3 k4 k5 k6 k7 k8 k9 k10 x8 or8 rn8 XV B19 XW zw kb0 kbf0 kb1 kbf1 kb2 kbf2 kb3 kbf3 kb4 kbf4
                                    have XW := XW2
                                    have B19 := C19
                                    clear XW2 C19
                                    generalize (((((v8.setCell ⟨T8 + 1, 0, none⟩ (.slice a8 m8 d8)).setCell ⟨T8 + 1, 1, none⟩ (.int .u64 p8)).setCell ⟨T8 + 1, 2, none⟩ (.int .u64 q8)).setCell ⟨T8 + 1, 3, none⟩ (.int .u64 t8)).setCell ⟨T8 + 1, 4, none⟩ (.int .u64 u8)) = W7 at *
                                    clear k8_T8___1_0 q8_T8___1_0 k8_T8___1_1 q8_T8___1_1 k8_T8___1_2 q8_T8___1_2 k8_T8___1_3 q8_T8___1_3 k8_T8___1_4 q8_T8___1_4 z8_T8___1
                                    go_cut [236] from 221 to 236 (fun sl wx => sl = .bool false ∧ Hid (Ext W0 wx) ∧ Hid (Blk wx (T8 + 1) 62 #[.slice a8 m8 d8, .int .u64 p8, .int .u64 q8, .int .u64 t8, .int .u64 u8]))
                                    case first => as_aux_lemma =>
                                      have ST1 := Lib.hid (ST.out.ext XW.out)
                                      have ER := Lib.hid (fun u (x : Ext W7 u) => eq_rand (g := wantU D P nn g) (RQ.out.ext x) ((rM.out.ext (xw0.tr XW.out)).ext x))
                                      have EN : Hid (∀ u (x : Ext W7 u), Calls Tryz.prog 39 #[.slice oa8 on8 oc8, .slice oM nM kM] u fun e w' => e = .returned (.bool true) ∧ Ext u w') := Lib.hid fun u x => (eqNumbers_any ((Row.of_owns OQ.out).1.ext x) (((Row.of_owns RM.out).1.ext XW.out).ext x)).mono (by
                                        rintro e w' ⟨rfl, m, rfl⟩
                                        exact ⟨by simp, (Ext.refl _).drewN _⟩)
                                      have zt := B19.out.lt
                                      have zs := ST1.out.b17.lt
                                      have kb0 := (B19.out.cell 0).trans (show (#[.slice a8 m8 d8, .int .u64 p8, .int .u64 q8, .int .u64 t8, .int .u64 u8] : Array Value)[0]? = some (.slice a8 m8 d8) from rfl)
                                      have kb1 := (B19.out.cell 1).trans (show (#[.slice a8 m8 d8, .int .u64 p8, .int .u64 q8, .int .u64 t8, .int .u64 u8] : Array Value)[1]? = some (.int .u64 p8) from rfl)
                                      have kb2 := (B19.out.cell 2).trans (show (#[.slice a8 m8 d8, .int .u64 p8, .int .u64 q8, .int .u64 t8, .int .u64 u8] : Array Value)[2]? = some (.int .u64 q8) from rfl)
                                      have kb3 := (B19.out.cell 3).trans (show (#[.slice a8 m8 d8, .int .u64 p8, .int .u64 q8, .int .u64 t8, .int .u64 u8] : Array Value)[3]? = some (.int .u64 t8) from rfl)
                                      have kb4 := (B19.out.cell 4).trans (show (#[.slice a8 m8 d8, .int .u64 p8, .int .u64 q8, .int .u64 t8, .int .u64 u8] : Array Value)[4]? = some (.int .u64 u8) from rfl)
                                      have ke0 := (ST1.out.b17.cell 0).trans (show (#[.slice aM mM cM, .int .u64 pM, .int .u64 qM, .int .u64 tM, .int .u64 uM] : Array Value)[0]? = some (.slice aM mM cM) from rfl)
                                      have ke1 := (ST1.out.b17.cell 1).trans (show (#[.slice aM mM cM, .int .u64 pM, .int .u64 qM, .int .u64 tM, .int .u64 uM] : Array Value)[1]? = some (.int .u64 pM) from rfl)
                                      have ke2 := (ST1.out.b17.cell 2).trans (show (#[.slice aM mM cM, .int .u64 pM, .int .u64 qM, .int .u64 tM, .int .u64 uM] : Array Value)[2]? = some (.int .u64 qM) from rfl)
                                      have ke3 := (ST1.out.b17.cell 3).trans (show (#[.slice aM mM cM, .int .u64 pM, .int .u64 qM, .int .u64 tM, .int .u64 uM] : Array Value)[3]? = some (.int .u64 tM) from rfl)
                                      have ke4 := (ST1.out.b17.cell 4).trans (show (#[.slice aM mM cM, .int .u64 pM, .int .u64 qM, .int .u64 tM, .int .u64 uM] : Array Value)[4]? = some (.int .u64 uM) from rfl)
                                      go_wp2_with fail
                                      refine (ER.out _ Ext.q).mono ?_; rintro e v6 ⟨rfl, x6⟩; obtain ⟨c6, f6⟩ := x6.rules; have z6 := x6.size
                                      go_wp2_with fail; refine (num25_any _ _).mono ?_; rintro e w' ⟨rfl, rfl⟩
                                      go_wp2_with fail; refine (EN.out _ Ext.q).mono ?_; rintro e v7 ⟨rfl, x7⟩; obtain ⟨c7, f7⟩ := x7.rules; have z7 := x7.size
                                      have XW7 := Lib.hid (XW.out.tr (x6.tr x7))
                                      have C19 := Lib.hid (B19.out.ext (x6.tr x7))
                                      go_wp2_with fail
                                      go_meet
                                      exact ⟨rfl, XW7, C19⟩
                                    case rest => as_aux_lemma =>
                                      obtain ⟨rfl, XW7, C19n⟩ := hcut
                                      clear B19 XW RQ OQ
                                      have XW := XW7
                                      have B19 := C19n
                                      clear XW7 C19n
                                      obtain ⟨W8, rfl⟩ : ∃ W8 : World, W8 = wc := ⟨_, rfl⟩
                                      have xwE := xw0.tr XW.out
                                      go_wp2_with fail
                                      go_roundw
                                      case rel => exact ⟨k + 1, by omega, by go_num, hext.tr xwE⟩
                                      case measure => simp [intOf]; omega
      · go_wp2
        go_ret
        exact ⟨rfl, Ext.q⟩
    · have W := Lib.hid wakes25
      by_cases h1 : k < len
      · go_wp2_with fail
        refine (W.out _).mono ?_
        rintro e w' ⟨rfl, xw⟩
        go_wp2
        go_ret
        exact ⟨rfl, hext.tr xw⟩
      · go_wp2_with fail
        refine (W.out _).mono ?_
        rintro e w' ⟨rfl, xw⟩
        go_wp2
        go_ret
        exact ⟨rfl, hext.tr xw⟩
set_option maxRecDepth 100000 in
theorem sexact_zero (a : Option Addr) (cap : Nat) (w : World) :
    Calls Tryz.prog 6 #[.slice a 0 cap] w fun e w' => e = .returned (.bool true) ∧ Ext w w' := by
  have W := Lib.hid wakes25
  go_enter Tryz.func6, Tryz.ntmps6
  go_wp2_with fail
  refine wp_loop_rounds 1 ?_
  rw [rounds_succ]
  go_wp2_with fail; refine (W.out _).mono ?_; rintro e v1 ⟨rfl, x1⟩; obtain ⟨c1, f1⟩ := x1.rules; have z1 := x1.size
  go_wp2
  go_ret
  exact ⟨rfl, Ext.q⟩
set_option maxRecDepth 100000 in
theorem sexact_any {H : Type} {enc : TypeId × Value → H} {w : World} {base : Nat} {v : Value} {d : DataW H} {p : List MemPlace}
    (hv : Value.okWide Tryz.prog w .any base 57 v) (h : DataW.Trod enc Tryz.prog w 0 (fun _ => true) true 57 v d p) :
    Calls Tryz.prog 6 #[v] w fun e w' => e = .returned (.bool true) ∧ Ext w w' := by
  rcases askS_open hv h with ⟨a, cap, rfl⟩ | ⟨b, o, len, cap, rfl, h1, h2, h3⟩
  · exact sexact_zero a cap w
  · exact sexact_walk b o len cap w h2 h3
end Go.Proofs.YtkegefnpmijfiaaGreat
