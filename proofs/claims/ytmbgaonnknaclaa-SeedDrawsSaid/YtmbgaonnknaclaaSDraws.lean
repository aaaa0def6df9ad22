/- SeedDraws: the walk. -/
import Derived.Test.YtmbgaonnknaclaaDrLaw
import Derived.BigRegion
import Derived.Deep.DeepCutAuto
namespace Go.Proofs.Ytmbgaonnknaclaa
open Go.RowKit
attribute [local go_sem ↓] Go.wp_at_zero Go.wp_at_succ
theorem blk5 {w : World} {b : Nat} {t : TypeId} {v0 v1 v2 v3 v4 : Value} (h : Blk w b t #[v0, v1, v2, v3, v4]) :
    w.cell? ⟨b, 0, none⟩ = some v0 ∧ w.cell? ⟨b, 1, none⟩ = some v1 ∧ w.cell? ⟨b, 2, none⟩ = some v2 ∧ w.cell? ⟨b, 3, none⟩ = some v3 ∧ w.cell? ⟨b, 4, none⟩ = some v4 :=
  ⟨h.cell 0, h.cell 1, h.cell 2, h.cell 3, h.cell 4⟩
theorem blk5f {w : World} {b : Nat} {t : TypeId} {cs : Array Value} (h : Blk w b t cs) :
    w.frozen? ⟨b, 0, none⟩ = false ∧ w.frozen? ⟨b, 1, none⟩ = false ∧ w.frozen? ⟨b, 2, none⟩ = false ∧ w.frozen? ⟨b, 3, none⟩ = false ∧ w.frozen? ⟨b, 4, none⟩ = false :=
  ⟨h.frozen 0, h.frozen 1, h.frozen 2, h.frozen 3, h.frozen 4⟩
theorem blk11 {w : World} {b : Nat} {t : TypeId} {v0 v1 v2 v3 v4 v5 v6 v7 v8 v9 v10 : Value} (h : Blk w b t #[v0, v1, v2, v3, v4, v5, v6, v7, v8, v9, v10]) :
    w.cell? ⟨b, 0, none⟩ = some v0 ∧ w.cell? ⟨b, 1, none⟩ = some v1 ∧ w.cell? ⟨b, 2, none⟩ = some v2 ∧ w.cell? ⟨b, 3, none⟩ = some v3 ∧ w.cell? ⟨b, 4, none⟩ = some v4 ∧ w.cell? ⟨b, 6, none⟩ = some v6 ∧ w.cell? ⟨b, 8, none⟩ = some v8 ∧ w.cell? ⟨b, 9, none⟩ = some v9 :=
  ⟨h.cell 0, h.cell 1, h.cell 2, h.cell 3, h.cell 4, h.cell 6, h.cell 8, h.cell 9⟩
theorem iota_succ (n : Nat) : iota (n + 1) = iota n ++ [(n : Int)] := by unfold iota; rw [List.range_succ, List.map_append]; rfl
theorem RandNew.set {base b o : Nat} {w : World} {v : Value} {g : Gen} (h : RandNew base w v g) (hb : b < base) (x : Value) : RandNew base (w.setCell ⟨b, o, none⟩ x) v g := by
  obtain ⟨a, c, rfl, r⟩ := h
  exact ⟨a, c, rfl, ownsRow_setCell_below r hb _⟩
theorem RandNew.drew {base : Nat} {w : World} {v : Value} {g : Gen} (h : RandNew base w v g) : RandNew base w.drew v g := by
  obtain ⟨a, c, rfl, r⟩ := h
  exact ⟨a, c, rfl, r⟩
theorem own_form1 {W : World} {base : Nat} {e : TypeId} {size : Nat} {v : Value} {k : Nat} {xs : List Value} (h : W.ownsRow base e size v k xs) (hk : 0 < k) : ∃ g cap, v = .slice (some ⟨g, 0, none⟩) k cap ∧ base ≤ g ∧ g < W.heap.size := by
  rcases h.2 with ⟨_, h0⟩ | ⟨g, cap, cur, rfl, hb, hg, _⟩
  · omega
  · exact ⟨g, cap, rfl, hb, (Array.getElem?_eq_some_iff.1 hg).1⟩
theorem s_set {w : World} {base : Nat} {e : TypeId} {g n cap : Nat} {zs : List Int} {k : IntKind} (h : w.ownsRow base e 1 (.slice (some ⟨g, 0, none⟩) n cap) n (zs.map (Value.int k))) (j : Nat) (d : Int) :
    (w.setCell ⟨g, j, none⟩ (.int k d)).ownsRow base e 1 (.slice (some ⟨g, 0, none⟩) n cap) n ((zs.set j d).map (Value.int k)) := by
  rw [List.map_set]; exact (h.stored j _).1
theorem s_at {w : World} {base : Nat} {e : TypeId} {g n cap : Nat} {zs : List Int} {k : IntKind} (h : w.ownsRow base e 1 (.slice (some ⟨g, 0, none⟩) n cap) n (zs.map (Value.int k))) (j : Nat) (hj : j < n) :
    w.cell? ⟨g, j, none⟩ = some (.int k (zs.getD j 0)) := by
  have hl : zs.length = n := by simpa using h.1
  rw [h.cellAt j (by omega), List.getElem?_map, List.getD_eq_getElem?_getD, List.getElem?_eq_getElem (by omega)]
  rfl
theorem news_row {w : World} {b o : Nat} {k : IntKind} {zs : List Int} (h : ∀ i, i < zs.length → w.cell? ⟨b, o + i, none⟩ = some (.int k (zs.getD i 0))) :
    ∀ j u, (zs.map (Value.int k))[j]? = some u → w.cell? ((⟨b, o, none⟩ : Addr).add j) = some u := by
  intro j u hj
  have hjn : j < zs.length := by
    have := (List.getElem?_eq_some_iff.1 hj).1
    simpa using this
  rw [Addr.add_lit, h j hjn]
  have e : (zs.map (Value.int k))[j]? = some (Value.int k (zs.getD j 0)) := by simp [List.getD, List.getElem?_eq_getElem hjn]
  rw [e] at hj
  exact hj
theorem Row.form9 {k : IntKind} {w : World} {v : Value} {ds : List Int} (h : Row k w v ds) (hn : 0 < ds.length) : ∃ b o cap, v = .slice (some ⟨b, o, none⟩) ds.length cap ∧ ∀ i, i < ds.length → w.cell? ⟨b, o + i, none⟩ = some (.int k (ds.getD i 0)) := by
  obtain ⟨a, cap, rfl, h1, h2, h3⟩ := h
  obtain ⟨b, o, rfl, hc⟩ := h3 (by intro e; rw [e] at hn; simp at hn)
  exact ⟨b, o, cap, rfl, hc⟩
set_option maxHeartbeats 4000000 in
set_option maxRecDepth 100000 in
theorem sdraws_walk (b o len cap : Nat) (w : World) (_hl : len ≤ 9223372036854775807) (hT : AsksS w b o len) :
    Calls Try.prog 3 #[.slice (some ⟨b, o, none⟩) len cap] w fun e w' => e = .returned (.bool true) ∧ Ext w w' := by
  obtain ⟨i0, hi0, hz0, hz1, hz2⟩ := info_parts infoI
  have HT := Lib.hid hT
  clear hT
  go_enter Try.func3, Try.ntmps3
  go_wp2_with fail
  go_loopw [3] (fun i wr => ∃ k : Nat, k ≤ len ∧ i = .int .i64 k ∧ Ext w wr) (fun i _ => len - (intOf i).toNat)
  case atStart => exact ⟨0, Nat.zero_le _, rfl, Ext.refl _⟩
  case round =>
    obtain ⟨k, hk, rfl, hext⟩ := hrel
    obtain ⟨wo, rfl⟩ : ∃ wo : World, wo = wr := ⟨_, rfl⟩
    by_cases hlt : k < len ∧ k < 6
    · obtain ⟨h1, h2⟩ := hlt
      obtain ⟨g, a0, l0, sv, ss, In, Out, N, P, F, t0, hIn, -, hN, hP, -, hsc, -⟩ := HT.out k h1
      obtain ⟨c0, c1, c2, c3, c4, c5, c6, c7, c8, c9, c10, rr, rr5⟩ := t0.ext hext
      have hR : RandAt wo (.agg #[.slice a0 g.script.length l0, .int .u64 (iv g.st.a), .int .u64 (iv g.st.b), .int .u64 (iv g.st.c), .int .u64 (iv g.st.d)]) g := ⟨a0, l0, rfl, rr⟩
      clear rr t0
      obtain ⟨sb, sc, rfl, -⟩ := rr5.form'
      clear rr5
      generalize ss.length = sn at *
      obtain ⟨m0, hm0⟩ : ∃ m0, g.script.length = m0 := ⟨_, rfl⟩
      rw [hm0] at hR c0
      generalize iv g.st.a = p0 at *
      generalize iv g.st.b = q0 at *
      generalize iv g.st.c = r0 at *
      generalize iv g.st.d = s0 at *
      have HR := Lib.hid hR
      have MAY := Lib.hid (fun W (x : Ext wo W) => may_rand (hR.ext x))
      have HSC := Lib.hid hsc
      have HM := Lib.hid hm0
      clear hR hsc hm0
      by_cases hl3 : m0 ≤ 300
      · cases hg : goodG g
        · rw [hg] at MAY
          clear hg
          go_wp2_with fail; refine (MAY.out _ (by repeat (first | with_reducible exact Ext.refl _ | with_reducible apply Ext.drew | with_reducible apply Ext.drewN | with_reducible apply Ext.alloc | ((with_reducible refine Ext.setCell ?_ ?_ _); rotate_left; focus (first | (simp; done) | (simp; omega) | omega)) | with_reducible refine Ext.tr ?_ x1 | with_reducible refine Ext.tr ?_ x2 | with_reducible refine Ext.tr ?_ x3 | with_reducible refine Ext.tr ?_ x4 | with_reducible refine Ext.tr ?_ x5 | with_reducible refine Ext.tr ?_ x6 | with_reducible refine Ext.tr ?_ x7 | with_reducible refine Ext.tr ?_ x8 | with_reducible refine Ext.tr ?_ x9 | with_reducible refine Ext.tr ?_ xa | with_reducible refine Ext.tr ?_ xb | with_reducible refine Ext.tr ?_ xc | with_reducible refine Ext.tr ?_ xd | with_reducible refine Ext.tr ?_ xf | with_reducible refine Ext.tr ?_ xg | with_reducible refine Ext.tr ?_ hext | with_reducible assumption))).mono ?_; rintro e v1 ⟨rfl, x1⟩; obtain ⟨c1, f1⟩ := x1.rules; have z1 := x1.size; have k1_wo_heap_size_0 := c1 (wo.heap.size) 0 (by first | (simp; done) | (simp; omega) | omega); have q1_wo_heap_size_0 := f1 (wo.heap.size) 0 (by first | (simp; done) | (simp; omega) | omega); have k1_wo_heap_size_1 := c1 (wo.heap.size) 1 (by first | (simp; done) | (simp; omega) | omega); have q1_wo_heap_size_1 := f1 (wo.heap.size) 1 (by first | (simp; done) | (simp; omega) | omega); have k1_wo_heap_size_2 := c1 (wo.heap.size) 2 (by first | (simp; done) | (simp; omega) | omega); have q1_wo_heap_size_2 := f1 (wo.heap.size) 2 (by first | (simp; done) | (simp; omega) | omega); have k1_wo_heap_size_3 := c1 (wo.heap.size) 3 (by first | (simp; done) | (simp; omega) | omega); have q1_wo_heap_size_3 := f1 (wo.heap.size) 3 (by first | (simp; done) | (simp; omega) | omega); have k1_wo_heap_size_4 := c1 (wo.heap.size) 4 (by first | (simp; done) | (simp; omega) | omega); have q1_wo_heap_size_4 := f1 (wo.heap.size) 4 (by first | (simp; done) | (simp; omega) | omega); have k1_wo_heap_size_5 := c1 (wo.heap.size) 5 (by first | (simp; done) | (simp; omega) | omega); have q1_wo_heap_size_5 := f1 (wo.heap.size) 5 (by first | (simp; done) | (simp; omega) | omega); have k1_wo_heap_size_6 := c1 (wo.heap.size) 6 (by first | (simp; done) | (simp; omega) | omega); have q1_wo_heap_size_6 := f1 (wo.heap.size) 6 (by first | (simp; done) | (simp; omega) | omega); have k1_wo_heap_size_7 := c1 (wo.heap.size) 7 (by first | (simp; done) | (simp; omega) | omega); have q1_wo_heap_size_7 := f1 (wo.heap.size) 7 (by first | (simp; done) | (simp; omega) | omega); have k1_wo_heap_size_8 := c1 (wo.heap.size) 8 (by first | (simp; done) | (simp; omega) | omega); have q1_wo_heap_size_8 := f1 (wo.heap.size) 8 (by first | (simp; done) | (simp; omega) | omega); have k1_wo_heap_size_9 := c1 (wo.heap.size) 9 (by first | (simp; done) | (simp; omega) | omega); have q1_wo_heap_size_9 := f1 (wo.heap.size) 9 (by first | (simp; done) | (simp; omega) | omega); have k1_wo_heap_size_10 := c1 (wo.heap.size) 10 (by first | (simp; done) | (simp; omega) | omega); have q1_wo_heap_size_10 := f1 (wo.heap.size) 10 (by first | (simp; done) | (simp; omega) | omega); have z1_wo_heap_size : wo.heap.size < v1.heap.size := (by (try simp at z1); omega); (try simp at z1); clear c1 f1; simp [go_sem, *] at k1_wo_heap_size_0 q1_wo_heap_size_0 k1_wo_heap_size_1 q1_wo_heap_size_1 k1_wo_heap_size_2 q1_wo_heap_size_2 k1_wo_heap_size_3 q1_wo_heap_size_3 k1_wo_heap_size_4 q1_wo_heap_size_4 k1_wo_heap_size_5 q1_wo_heap_size_5 k1_wo_heap_size_6 q1_wo_heap_size_6 k1_wo_heap_size_7 q1_wo_heap_size_7 k1_wo_heap_size_8 q1_wo_heap_size_8 k1_wo_heap_size_9 q1_wo_heap_size_9 k1_wo_heap_size_10 q1_wo_heap_size_10
          go_wp2_with fail
          go_roundw
          case rel => exact ⟨k + 1, by omega, by go_num, (by repeat (first | with_reducible exact Ext.refl _ | with_reducible apply Ext.drew | with_reducible apply Ext.drewN | with_reducible apply Ext.alloc | ((with_reducible refine Ext.setCell ?_ ?_ _); rotate_left; focus (first | (simp; done) | (simp; omega) | omega)) | with_reducible refine Ext.tr ?_ x1 | with_reducible refine Ext.tr ?_ x2 | with_reducible refine Ext.tr ?_ x3 | with_reducible refine Ext.tr ?_ x4 | with_reducible refine Ext.tr ?_ x5 | with_reducible refine Ext.tr ?_ x6 | with_reducible refine Ext.tr ?_ x7 | with_reducible refine Ext.tr ?_ x8 | with_reducible refine Ext.tr ?_ x9 | with_reducible refine Ext.tr ?_ xa | with_reducible refine Ext.tr ?_ xb | with_reducible refine Ext.tr ?_ xc | with_reducible refine Ext.tr ?_ xd | with_reducible refine Ext.tr ?_ xf | with_reducible refine Ext.tr ?_ xg | with_reducible refine Ext.tr ?_ hext | with_reducible assumption))⟩
          case measure => simp [intOf]; omega
        · rw [hg] at MAY
          have FINE : Hid g.Fine := Lib.hid ⟨hg, HSC.out⟩
          clear hg HSC HM
          obtain ⟨j, j0, j1, W1⟩ := Within_some N 30 (by omega) (by omega)
          obtain ⟨q, q0', q1', W2⟩ := Within_some P 100 (by omega) (by omega)
          obtain ⟨j2, j20, j21, W3⟩ := Within_some In 30 (by omega) (by omega)
          have W30 := Lib.hid W1
          have W100 := Lib.hid W2
          have W31 := Lib.hid W3
          clear W1 W2 W3
          obtain ⟨n, hn⟩ : ∃ n : Nat, 1 + j = n := ⟨(1 + j).toNat, by omega⟩
          obtain ⟨m, hm⟩ : ∃ m : Nat, 1 + j2 = m := ⟨(1 + j2).toNat, by omega⟩
          have n1 : 1 ≤ n := by omega
          have n30 : n ≤ 30 := by omega
          have m1 : 1 ≤ m := by omega
          have m30 : m ≤ 30 := by omega
          have SH := Lib.hid (fun W (x : Ext wo W) => shuffle_agg (n := n) (HR.out.ext x) FINE.out n1 n30)
          have CP := Lib.hid (fun W (x : Ext wo W) => copy_agg (HR.out.ext x) FINE.out)
          have HM := Lib.hid hm
          clear hm
          have BP := Lib.hid (Blk.new wo 30 #[.slice a0 m0 l0, .int .u64 p0, .int .u64 q0, .int .u64 r0, .int .u64 s0, .slice sb sn sc, .int .i64 In, .int .i64 Out, .int .i64 N, .int .i64 P, .int .i64 F])
          go_wp2_with fail; refine (MAY.out _ (by repeat (first | with_reducible exact Ext.refl _ | with_reducible apply Ext.drew | with_reducible apply Ext.drewN | with_reducible apply Ext.alloc | ((with_reducible refine Ext.setCell ?_ ?_ _); rotate_left; focus (first | (simp; done) | (simp; omega) | omega)) | with_reducible refine Ext.tr ?_ x1 | with_reducible refine Ext.tr ?_ x2 | with_reducible refine Ext.tr ?_ x3 | with_reducible refine Ext.tr ?_ x4 | with_reducible refine Ext.tr ?_ x5 | with_reducible refine Ext.tr ?_ x6 | with_reducible refine Ext.tr ?_ x7 | with_reducible refine Ext.tr ?_ x8 | with_reducible refine Ext.tr ?_ x9 | with_reducible refine Ext.tr ?_ xa | with_reducible refine Ext.tr ?_ xb | with_reducible refine Ext.tr ?_ xc | with_reducible refine Ext.tr ?_ xd | with_reducible refine Ext.tr ?_ xf | with_reducible refine Ext.tr ?_ xg | with_reducible refine Ext.tr ?_ hext | with_reducible assumption))).mono ?_; rintro e v1 ⟨rfl, x1⟩; obtain ⟨c1, f1⟩ := x1.rules; have z1 := x1.size; have k1_wo_heap_size_0 := c1 (wo.heap.size) 0 (by first | (simp; done) | (simp; omega) | omega); have q1_wo_heap_size_0 := f1 (wo.heap.size) 0 (by first | (simp; done) | (simp; omega) | omega); have k1_wo_heap_size_1 := c1 (wo.heap.size) 1 (by first | (simp; done) | (simp; omega) | omega); have q1_wo_heap_size_1 := f1 (wo.heap.size) 1 (by first | (simp; done) | (simp; omega) | omega); have k1_wo_heap_size_2 := c1 (wo.heap.size) 2 (by first | (simp; done) | (simp; omega) | omega); have q1_wo_heap_size_2 := f1 (wo.heap.size) 2 (by first | (simp; done) | (simp; omega) | omega); have k1_wo_heap_size_3 := c1 (wo.heap.size) 3 (by first | (simp; done) | (simp; omega) | omega); have q1_wo_heap_size_3 := f1 (wo.heap.size) 3 (by first | (simp; done) | (simp; omega) | omega); have k1_wo_heap_size_4 := c1 (wo.heap.size) 4 (by first | (simp; done) | (simp; omega) | omega); have q1_wo_heap_size_4 := f1 (wo.heap.size) 4 (by first | (simp; done) | (simp; omega) | omega); have k1_wo_heap_size_5 := c1 (wo.heap.size) 5 (by first | (simp; done) | (simp; omega) | omega); have q1_wo_heap_size_5 := f1 (wo.heap.size) 5 (by first | (simp; done) | (simp; omega) | omega); have k1_wo_heap_size_6 := c1 (wo.heap.size) 6 (by first | (simp; done) | (simp; omega) | omega); have q1_wo_heap_size_6 := f1 (wo.heap.size) 6 (by first | (simp; done) | (simp; omega) | omega); have k1_wo_heap_size_7 := c1 (wo.heap.size) 7 (by first | (simp; done) | (simp; omega) | omega); have q1_wo_heap_size_7 := f1 (wo.heap.size) 7 (by first | (simp; done) | (simp; omega) | omega); have k1_wo_heap_size_8 := c1 (wo.heap.size) 8 (by first | (simp; done) | (simp; omega) | omega); have q1_wo_heap_size_8 := f1 (wo.heap.size) 8 (by first | (simp; done) | (simp; omega) | omega); have k1_wo_heap_size_9 := c1 (wo.heap.size) 9 (by first | (simp; done) | (simp; omega) | omega); have q1_wo_heap_size_9 := f1 (wo.heap.size) 9 (by first | (simp; done) | (simp; omega) | omega); have k1_wo_heap_size_10 := c1 (wo.heap.size) 10 (by first | (simp; done) | (simp; omega) | omega); have q1_wo_heap_size_10 := f1 (wo.heap.size) 10 (by first | (simp; done) | (simp; omega) | omega); have z1_wo_heap_size : wo.heap.size < v1.heap.size := (by (try simp at z1); omega); (try simp at z1); clear c1 f1; simp [go_sem, *] at k1_wo_heap_size_0 q1_wo_heap_size_0 k1_wo_heap_size_1 q1_wo_heap_size_1 k1_wo_heap_size_2 q1_wo_heap_size_2 k1_wo_heap_size_3 q1_wo_heap_size_3 k1_wo_heap_size_4 q1_wo_heap_size_4 k1_wo_heap_size_5 q1_wo_heap_size_5 k1_wo_heap_size_6 q1_wo_heap_size_6 k1_wo_heap_size_7 q1_wo_heap_size_7 k1_wo_heap_size_8 q1_wo_heap_size_8 k1_wo_heap_size_9 q1_wo_heap_size_9 k1_wo_heap_size_10 q1_wo_heap_size_10
          clear MAY
          go_wp2_with fail; refine (W30.out _).mono ?_; rintro e w' ⟨rfl, rfl⟩
          go_wp2_with fail; refine (SH.out _ (by repeat (first | with_reducible exact Ext.refl _ | with_reducible apply Ext.drew | with_reducible apply Ext.drewN | with_reducible apply Ext.alloc | ((with_reducible refine Ext.setCell ?_ ?_ _); rotate_left; focus (first | (simp; done) | (simp; omega) | omega)) | with_reducible refine Ext.tr ?_ x1 | with_reducible refine Ext.tr ?_ x2 | with_reducible refine Ext.tr ?_ x3 | with_reducible refine Ext.tr ?_ x4 | with_reducible refine Ext.tr ?_ x5 | with_reducible refine Ext.tr ?_ x6 | with_reducible refine Ext.tr ?_ x7 | with_reducible refine Ext.tr ?_ x8 | with_reducible refine Ext.tr ?_ x9 | with_reducible refine Ext.tr ?_ xa | with_reducible refine Ext.tr ?_ xb | with_reducible refine Ext.tr ?_ xc | with_reducible refine Ext.tr ?_ xd | with_reducible refine Ext.tr ?_ xf | with_reducible refine Ext.tr ?_ xg | with_reducible refine Ext.tr ?_ hext | with_reducible assumption))).mono ?_; rintro e v2 ⟨o2, a2, m2, l2, p2, q2, r2, s2, rfl, x2, ho2, hs2⟩; obtain ⟨c2, f2⟩ := x2.rules; have z2 := x2.size; have k2_wo_heap_size_0 := c2 (wo.heap.size) 0 (by first | (simp; done) | (simp; omega) | omega); have q2_wo_heap_size_0 := f2 (wo.heap.size) 0 (by first | (simp; done) | (simp; omega) | omega); have k2_wo_heap_size_1 := c2 (wo.heap.size) 1 (by first | (simp; done) | (simp; omega) | omega); have q2_wo_heap_size_1 := f2 (wo.heap.size) 1 (by first | (simp; done) | (simp; omega) | omega); have k2_wo_heap_size_2 := c2 (wo.heap.size) 2 (by first | (simp; done) | (simp; omega) | omega); have q2_wo_heap_size_2 := f2 (wo.heap.size) 2 (by first | (simp; done) | (simp; omega) | omega); have k2_wo_heap_size_3 := c2 (wo.heap.size) 3 (by first | (simp; done) | (simp; omega) | omega); have q2_wo_heap_size_3 := f2 (wo.heap.size) 3 (by first | (simp; done) | (simp; omega) | omega); have k2_wo_heap_size_4 := c2 (wo.heap.size) 4 (by first | (simp; done) | (simp; omega) | omega); have q2_wo_heap_size_4 := f2 (wo.heap.size) 4 (by first | (simp; done) | (simp; omega) | omega); have k2_wo_heap_size_5 := c2 (wo.heap.size) 5 (by first | (simp; done) | (simp; omega) | omega); have q2_wo_heap_size_5 := f2 (wo.heap.size) 5 (by first | (simp; done) | (simp; omega) | omega); have k2_wo_heap_size_6 := c2 (wo.heap.size) 6 (by first | (simp; done) | (simp; omega) | omega); have q2_wo_heap_size_6 := f2 (wo.heap.size) 6 (by first | (simp; done) | (simp; omega) | omega); have k2_wo_heap_size_7 := c2 (wo.heap.size) 7 (by first | (simp; done) | (simp; omega) | omega); have q2_wo_heap_size_7 := f2 (wo.heap.size) 7 (by first | (simp; done) | (simp; omega) | omega); have k2_wo_heap_size_8 := c2 (wo.heap.size) 8 (by first | (simp; done) | (simp; omega) | omega); have q2_wo_heap_size_8 := f2 (wo.heap.size) 8 (by first | (simp; done) | (simp; omega) | omega); have k2_wo_heap_size_9 := c2 (wo.heap.size) 9 (by first | (simp; done) | (simp; omega) | omega); have q2_wo_heap_size_9 := f2 (wo.heap.size) 9 (by first | (simp; done) | (simp; omega) | omega); have k2_wo_heap_size_10 := c2 (wo.heap.size) 10 (by first | (simp; done) | (simp; omega) | omega); have q2_wo_heap_size_10 := f2 (wo.heap.size) 10 (by first | (simp; done) | (simp; omega) | omega); have z2_wo_heap_size : wo.heap.size < v2.heap.size := (by (try simp at z2); omega); (try simp at z2); clear c2 f2; simp [go_sem, *] at k2_wo_heap_size_0 q2_wo_heap_size_0 k2_wo_heap_size_1 q2_wo_heap_size_1 k2_wo_heap_size_2 q2_wo_heap_size_2 k2_wo_heap_size_3 q2_wo_heap_size_3 k2_wo_heap_size_4 q2_wo_heap_size_4 k2_wo_heap_size_5 q2_wo_heap_size_5 k2_wo_heap_size_6 q2_wo_heap_size_6 k2_wo_heap_size_7 q2_wo_heap_size_7 k2_wo_heap_size_8 q2_wo_heap_size_8 k2_wo_heap_size_9 q2_wo_heap_size_9 k2_wo_heap_size_10 q2_wo_heap_size_10
          clear SH W30 hn
          go_wp2_with fail; refine (CP.out _ (by repeat (first | with_reducible exact Ext.refl _ | with_reducible apply Ext.drew | with_reducible apply Ext.drewN | with_reducible apply Ext.alloc | ((with_reducible refine Ext.setCell ?_ ?_ _); rotate_left; focus (first | (simp; done) | (simp; omega) | omega)) | with_reducible refine Ext.tr ?_ x1 | with_reducible refine Ext.tr ?_ x2 | with_reducible refine Ext.tr ?_ x3 | with_reducible refine Ext.tr ?_ x4 | with_reducible refine Ext.tr ?_ x5 | with_reducible refine Ext.tr ?_ x6 | with_reducible refine Ext.tr ?_ x7 | with_reducible refine Ext.tr ?_ x8 | with_reducible refine Ext.tr ?_ x9 | with_reducible refine Ext.tr ?_ xa | with_reducible refine Ext.tr ?_ xb | with_reducible refine Ext.tr ?_ xc | with_reducible refine Ext.tr ?_ xd | with_reducible refine Ext.tr ?_ xf | with_reducible refine Ext.tr ?_ xg | with_reducible refine Ext.tr ?_ hext | with_reducible assumption))).mono ?_; rintro e v3 ⟨a3, m3, l3, p3, q3, r3, s3, rfl, x3, hr3⟩; obtain ⟨c3, f3⟩ := x3.rules; have z3 := x3.size; have k3_wo_heap_size_0 := c3 (wo.heap.size) 0 (by first | (simp; done) | (simp; omega) | omega); have q3_wo_heap_size_0 := f3 (wo.heap.size) 0 (by first | (simp; done) | (simp; omega) | omega); have k3_wo_heap_size_1 := c3 (wo.heap.size) 1 (by first | (simp; done) | (simp; omega) | omega); have q3_wo_heap_size_1 := f3 (wo.heap.size) 1 (by first | (simp; done) | (simp; omega) | omega); have k3_wo_heap_size_2 := c3 (wo.heap.size) 2 (by first | (simp; done) | (simp; omega) | omega); have q3_wo_heap_size_2 := f3 (wo.heap.size) 2 (by first | (simp; done) | (simp; omega) | omega); have k3_wo_heap_size_3 := c3 (wo.heap.size) 3 (by first | (simp; done) | (simp; omega) | omega); have q3_wo_heap_size_3 := f3 (wo.heap.size) 3 (by first | (simp; done) | (simp; omega) | omega); have k3_wo_heap_size_4 := c3 (wo.heap.size) 4 (by first | (simp; done) | (simp; omega) | omega); have q3_wo_heap_size_4 := f3 (wo.heap.size) 4 (by first | (simp; done) | (simp; omega) | omega); have k3_wo_heap_size_5 := c3 (wo.heap.size) 5 (by first | (simp; done) | (simp; omega) | omega); have q3_wo_heap_size_5 := f3 (wo.heap.size) 5 (by first | (simp; done) | (simp; omega) | omega); have k3_wo_heap_size_6 := c3 (wo.heap.size) 6 (by first | (simp; done) | (simp; omega) | omega); have q3_wo_heap_size_6 := f3 (wo.heap.size) 6 (by first | (simp; done) | (simp; omega) | omega); have k3_wo_heap_size_7 := c3 (wo.heap.size) 7 (by first | (simp; done) | (simp; omega) | omega); have q3_wo_heap_size_7 := f3 (wo.heap.size) 7 (by first | (simp; done) | (simp; omega) | omega); have k3_wo_heap_size_8 := c3 (wo.heap.size) 8 (by first | (simp; done) | (simp; omega) | omega); have q3_wo_heap_size_8 := f3 (wo.heap.size) 8 (by first | (simp; done) | (simp; omega) | omega); have k3_wo_heap_size_9 := c3 (wo.heap.size) 9 (by first | (simp; done) | (simp; omega) | omega); have q3_wo_heap_size_9 := f3 (wo.heap.size) 9 (by first | (simp; done) | (simp; omega) | omega); have k3_wo_heap_size_10 := c3 (wo.heap.size) 10 (by first | (simp; done) | (simp; omega) | omega); have q3_wo_heap_size_10 := f3 (wo.heap.size) 10 (by first | (simp; done) | (simp; omega) | omega); have k3_v2_heap_size_0 := c3 (v2.heap.size) 0 (by first | (simp; done) | (simp; omega) | omega); have q3_v2_heap_size_0 := f3 (v2.heap.size) 0 (by first | (simp; done) | (simp; omega) | omega); have k3_v2_heap_size_1 := c3 (v2.heap.size) 1 (by first | (simp; done) | (simp; omega) | omega); have q3_v2_heap_size_1 := f3 (v2.heap.size) 1 (by first | (simp; done) | (simp; omega) | omega); have k3_v2_heap_size_2 := c3 (v2.heap.size) 2 (by first | (simp; done) | (simp; omega) | omega); have q3_v2_heap_size_2 := f3 (v2.heap.size) 2 (by first | (simp; done) | (simp; omega) | omega); have k3_v2_heap_size_3 := c3 (v2.heap.size) 3 (by first | (simp; done) | (simp; omega) | omega); have q3_v2_heap_size_3 := f3 (v2.heap.size) 3 (by first | (simp; done) | (simp; omega) | omega); have k3_v2_heap_size_4 := c3 (v2.heap.size) 4 (by first | (simp; done) | (simp; omega) | omega); have q3_v2_heap_size_4 := f3 (v2.heap.size) 4 (by first | (simp; done) | (simp; omega) | omega); have z3_wo_heap_size : wo.heap.size < v3.heap.size := (by (try simp at z3); omega); have z3_v2_heap_size : v2.heap.size < v3.heap.size := (by (try simp at z3); omega); (try simp at z3); clear c3 f3; simp [go_sem, *] at k3_wo_heap_size_0 q3_wo_heap_size_0 k3_wo_heap_size_1 q3_wo_heap_size_1 k3_wo_heap_size_2 q3_wo_heap_size_2 k3_wo_heap_size_3 q3_wo_heap_size_3 k3_wo_heap_size_4 q3_wo_heap_size_4 k3_wo_heap_size_5 q3_wo_heap_size_5 k3_wo_heap_size_6 q3_wo_heap_size_6 k3_wo_heap_size_7 q3_wo_heap_size_7 k3_wo_heap_size_8 q3_wo_heap_size_8 k3_wo_heap_size_9 q3_wo_heap_size_9 k3_wo_heap_size_10 q3_wo_heap_size_10 k3_v2_heap_size_0 q3_v2_heap_size_0 k3_v2_heap_size_1 q3_v2_heap_size_1 k3_v2_heap_size_2 q3_v2_heap_size_2 k3_v2_heap_size_3 q3_v2_heap_size_3 k3_v2_heap_size_4 q3_v2_heap_size_4
          clear CP
          have BS := Lib.hid ((Blk.new v2 27 (rv a2 m2 l2 p2 q2 r2 s2)).ext x3)
          have BS2 := Lib.hid (BS.out.alloc (.cells #[.slice a3 m3 l3, .int .u64 p3, .int .u64 q3, .int .u64 r3, .int .u64 s3] 27))
          have BR := Lib.hid (Blk.new v3 27 (rv a3 m3 l3 p3 q3 r3 s3))
          have RN := Lib.hid (hr3.out.at.ext (Ext.alloc (Ext.refl v3) (.cells #[.slice a3 m3 l3, .int .u64 p3, .int .u64 q3, .int .u64 r3, .int .u64 s3] 27)))
          have hsz : (v3.alloc (.cells #[.slice a3 m3 l3, .int .u64 p3, .int .u64 q3, .int .u64 r3, .int .u64 s3] 27)).heap.size = v3.heap.size + 1 := by simp
          have x4 : Ext v2 (v3.alloc (.cells #[.slice a3 m3 l3, .int .u64 p3, .int .u64 q3, .int .u64 r3, .int .u64 s3] 27)) := (by repeat (first | with_reducible exact Ext.refl _ | with_reducible apply Ext.drew | with_reducible apply Ext.drewN | with_reducible apply Ext.alloc | ((with_reducible refine Ext.setCell ?_ ?_ _); rotate_left; focus (first | (simp; done) | (simp; omega) | omega)) | with_reducible refine Ext.tr ?_ x1 | with_reducible refine Ext.tr ?_ x2 | with_reducible refine Ext.tr ?_ x3 | with_reducible refine Ext.tr ?_ x4 | with_reducible refine Ext.tr ?_ x5 | with_reducible refine Ext.tr ?_ x6 | with_reducible refine Ext.tr ?_ x7 | with_reducible refine Ext.tr ?_ x8 | with_reducible refine Ext.tr ?_ x9 | with_reducible refine Ext.tr ?_ xa | with_reducible refine Ext.tr ?_ xb | with_reducible refine Ext.tr ?_ xc | with_reducible refine Ext.tr ?_ xd | with_reducible refine Ext.tr ?_ xf | with_reducible refine Ext.tr ?_ xg | with_reducible refine Ext.tr ?_ hext | with_reducible assumption))
          have hS3 : v2.heap.size < v3.heap.size := by have := x3.size; simp at this; omega
          have xw2 : Ext w v2 := (by repeat (first | with_reducible exact Ext.refl _ | with_reducible apply Ext.drew | with_reducible apply Ext.drewN | with_reducible apply Ext.alloc | ((with_reducible refine Ext.setCell ?_ ?_ _); rotate_left; focus (first | (simp; done) | (simp; omega) | omega)) | with_reducible refine Ext.tr ?_ x1 | with_reducible refine Ext.tr ?_ x2 | with_reducible refine Ext.tr ?_ x3 | with_reducible refine Ext.tr ?_ x4 | with_reducible refine Ext.tr ?_ x5 | with_reducible refine Ext.tr ?_ x6 | with_reducible refine Ext.tr ?_ x7 | with_reducible refine Ext.tr ?_ x8 | with_reducible refine Ext.tr ?_ x9 | with_reducible refine Ext.tr ?_ xa | with_reducible refine Ext.tr ?_ xb | with_reducible refine Ext.tr ?_ xc | with_reducible refine Ext.tr ?_ xd | with_reducible refine Ext.tr ?_ xf | with_reducible refine Ext.tr ?_ xg | with_reducible refine Ext.tr ?_ hext | with_reducible assumption))
          have xo2 : Ext wo v2 := (by repeat (first | with_reducible exact Ext.refl _ | with_reducible apply Ext.drew | with_reducible apply Ext.drewN | with_reducible apply Ext.alloc | ((with_reducible refine Ext.setCell ?_ ?_ _); rotate_left; focus (first | (simp; done) | (simp; omega) | omega)) | with_reducible refine Ext.tr ?_ x1 | with_reducible refine Ext.tr ?_ x2 | with_reducible refine Ext.tr ?_ x3 | with_reducible refine Ext.tr ?_ x4 | with_reducible refine Ext.tr ?_ x5 | with_reducible refine Ext.tr ?_ x6 | with_reducible refine Ext.tr ?_ x7 | with_reducible refine Ext.tr ?_ x8 | with_reducible refine Ext.tr ?_ x9 | with_reducible refine Ext.tr ?_ xa | with_reducible refine Ext.tr ?_ xb | with_reducible refine Ext.tr ?_ xc | with_reducible refine Ext.tr ?_ xd | with_reducible refine Ext.tr ?_ xf | with_reducible refine Ext.tr ?_ xg | with_reducible refine Ext.tr ?_ hext | with_reducible assumption))
          have BP2 := Lib.hid ((BP.out.ext x1).ext x2)
          unfold rv at BR
          clear BS
          go_wp2_with fail
          generalize v3.alloc (.cells #[.slice a3 m3 l3, .int .u64 p3, .int .u64 q3, .int .u64 r3, .int .u64 s3] 27) = vb at *
          generalize hR3 : v3.heap.size = R at *
          generalize hS2 : v2.heap.size = S at *
          clear hR3 k3_wo_heap_size_0 q3_wo_heap_size_0 k3_wo_heap_size_1 q3_wo_heap_size_1 k3_wo_heap_size_2 q3_wo_heap_size_2 k3_wo_heap_size_3 q3_wo_heap_size_3 k3_wo_heap_size_4 q3_wo_heap_size_4 k3_wo_heap_size_5 q3_wo_heap_size_5 k3_wo_heap_size_6 q3_wo_heap_size_6 k3_wo_heap_size_7 q3_wo_heap_size_7 k3_wo_heap_size_8 q3_wo_heap_size_8 k3_wo_heap_size_9 q3_wo_heap_size_9 k3_wo_heap_size_10 q3_wo_heap_size_10 k3_v2_heap_size_0 q3_v2_heap_size_0 k3_v2_heap_size_1 q3_v2_heap_size_1 k3_v2_heap_size_2 q3_v2_heap_size_2 k3_v2_heap_size_3 q3_v2_heap_size_3 k3_v2_heap_size_4 q3_v2_heap_size_4 x1 x3 hr3
          go_loopw [10, 11] (fun lv iv wr => ∃ (j : Nat) (lq : Value), lv = lq ∧ j ≤ n ∧ iv = .int .i64 j ∧ wr.ownsRow (R + 1) 3 1 lq j ((iota j).map (Value.int .i64)) ∧ R + 1 ≤ wr.heap.size ∧ Ext vb wr) (fun _ iv _ => n - (intOf iv).toNat)
          case atStart => exact ⟨0, _, rfl, Nat.zero_le _, rfl, World.ownsRow_nil _ _ _ _, by omega, Ext.refl _⟩
          case round =>
            obtain ⟨jj, lq, rfl, hjj, rfl, hown, hRw, xb⟩ := hrel
            by_cases hlt2 : jj < n
            · have hrow := hown.lt
              have hn2 : jj + 1 ≤ maxLen := by unfold maxLen; omega
              have hn3 : (jj + 1) * 8 ≤ 140737488355328 := by omega
              go_wp2_with (at_builtin; refine (show Hid _ from ?_).out)
              refine Lib.hid ?_
              refine wpList_append_own _ rfl _ _ 28 rfl (R + 1) 3 i0 (.int .i64 0) 1 8 Try.underlying28 hi0 hz0 hz1 hz2 rfl (by decide) _ _ _ rfl (hown.alloc _) ⟨wr.heap.size, 0, none⟩ 1 1 [.int .i64 jj] rfl rfl (newsC_1 _ _ _) (oneC_1 _ _) hn2 hn3 (by simp; omega) ?_
              intro v' w1 hown1 hgrow _
              have X : Ext vb w1 := Ext.grown (xb.alloc _) hgrow (fun r hr => by have := (hrow r hr).1; omega)
              have hRz : R + 1 ≤ w1.heap.size := by have := hgrow.size; simp at this; omega
              have HO := Lib.hid (show w1.ownsRow (R + 1) 3 1 v' (jj + 1) ((iota (jj + 1)).map (Value.int .i64)) by rw [iota_succ, List.map_append]; exact hown1)
              clear hown hgrow hrow hown1 hn2 hn3
              go_wp2_with fail
              go_roundw
              case rel => exact ⟨jj + 1, _, rfl, by omega, by go_num, HO.out, hRz, X⟩
              case measure => simp [intOf]; omega
            · obtain rfl : jj = n := by omega
              obtain ⟨G, cap1, rfl, hG1, hG2⟩ := own_form1 hown n1
              have BS3 := Lib.hid (BS2.out.ext xb)
              have BR3 := Lib.hid (BR.out.ext xb)
              have RN3 := Lib.hid (RN.out.ext xb)
              have x5 : Ext v2 wr := x4.tr xb
              have HO := Lib.hid hown
              clear hown BS2 BR RN hlt2 hjj xb x4 hsz hRw
              go_wp2_with fail
              go_loopw [12] (fun iv wq => ∃ (t : Nat) (a : Option Addr) (m c : Nat) (p q r s : Int), t + 1 ≤ jj ∧ iv = .int .i64 ((jj : Int) - 1 - t) ∧ wq.ownsRow (R + 1) 3 1 (.slice (some ⟨G, 0, none⟩) jj cap1) jj ((shufAt jj g t).map (Value.int .i64)) ∧ Blk wq S 27 (rv a2 m2 l2 p2 q2 r2 s2) ∧ Blk wq R 27 (rv a m c p q r s) ∧ RandAt wq (.agg #[.slice a m c, .int .u64 p, .int .u64 q, .int .u64 r, .int .u64 s]) (g.turn jj t) ∧ Ext v2 wq) (fun iv _ => (intOf iv).toNat)
              case atStart => exact ⟨0, a3, m3, l3, p3, q3, r3, s3, by omega, by simp, HO.out, BS3.out, BR3.out, RN3.out, x5⟩
              case round =>
                clear HO BS3 BR3 RN3 x5 hG2
                obtain ⟨t, a4, m4, l4, p4, q4, r4, s4, ht, rfl, hown, bs, br, hr, x6⟩ := hrel
                obtain ⟨I, hI⟩ : ∃ I : Nat, jj - 1 - t = I := ⟨_, rfl⟩
                rw [show (jj : Int) - 1 - t = (I : Int) by omega]
                by_cases hI1 : 1 ≤ I
                · obtain ⟨d0, d1⟩ := (g.turn jj t).below_bd (n := (I : Int) + 1) (by omega)
                  have BEL := Lib.hid (below_agg (j := (I : Int) + 1) hr (Gen.turn_fine FINE.out t) (few_of (by omega) (by omega)))
                  obtain ⟨D, hD⟩ : ∃ D : Nat, ((g.turn jj t).below ((I : Int) + 1)).toNat = D := ⟨_, rfl⟩
                  have hDI : (g.turn jj t).below ((I : Int) + 1) = (D : Int) := by omega
                  rw [hDI] at BEL d1
                  have hG3 : G < wr.heap.size := (hown.lt _ rfl).2
                  have hlen := shufAt_len jj g t
                  have HO := Lib.hid hown
                  have BS := Lib.hid bs
                  have BR := Lib.hid br
                  have hRw := br.lt
                  have hSw := bs.lt
                  have HD := Lib.hid (show ((g.turn jj t).below ((jj : Int) - t)).toNat = D by rw [show (jj : Int) - t = (I : Int) + 1 by omega]; exact hD)
                  have HI := Lib.hid hI
                  obtain ⟨y0, y1, y2, y3, y4⟩ := blk5 br
                  have hDI2 : D ≤ I := by omega
                  have hIj : I < jj := by omega
                  clear hown bs br hr hI hD hDI d0 d1
                  go_wp2_with fail
                  refine (BEL.out).mono ?_
                  rintro e v5 ⟨a5, m5, l5, p5, q5, r5, s5, rfl, x7, hn5⟩
                  have z7 := x7.size
                  have hown5 := own_old HO.out x7
                  have yi := s_at hown5 I (by omega)
                  have yd := s_at hown5 D (by omega)
                  have fi := hown5.frozenAt I
                  have fd := hown5.frozenAt D
                  clear y0 y1 y2 y3 y4
                  obtain ⟨y0, y1, y2, y3, y4⟩ := blk5 (BR.out.ext x7)
                  obtain ⟨f0, f1, f2, f3, f4⟩ := blk5f (BR.out.ext x7)
                  have hRv : R < v5.heap.size := by omega
                  have hGv : G < v5.heap.size := by omega
                  have HO5 := Lib.hid hown5
                  have nI : (I : Int) < (jj : Int) := by omega
                  have nD : (D : Int) < (jj : Int) := by omega
                  have nDI : decide ((I : Int) < (D : Int)) = false := by simp; omega
                  have own_a := hown5
                  have kx0 := fun e => s_at (s_set own_a I e) D (by omega)
                  have fx0 := fun e => (s_set own_a I e).frozenAt D
                  have OWN7 := Lib.hid (fun ed ei => World.ownsRow.alloc (own_row5 (b := R) (show ((v5.setCell ⟨G, I, none⟩ (.int .i64 ed)).setCell ⟨G, D, none⟩ (.int .i64 ei)).ownsRow (R + 1) 3 1 (.slice (some ⟨G, 0, none⟩) jj cap1) jj ((((shufAt jj g t).set I ed).set D ei).map (Value.int .i64)) from s_set (s_set own_a I ed) D ei) (by omega) (.slice a5 m5 l5) (.int .u64 p5) (.int .u64 q5) (.int .u64 r5) (.int .u64 s5)) (.cells #[.slice a5 m5 l5, .int .u64 p5, .int .u64 q5, .int .u64 r5, .int .u64 s5] 27))
                  have BS7 := Lib.hid (fun ed ei => ((((((((BS.out.ext x7).far (p := ⟨G, I, none⟩) (by simp; omega) (.int .i64 ed)).far (p := ⟨G, D, none⟩) (by simp; omega) (.int .i64 ei)).far (p := ⟨R, 0, none⟩) (by simp; omega) (.slice a5 m5 l5)).far (p := ⟨R, 1, none⟩) (by simp; omega) (.int .u64 p5)).far (p := ⟨R, 2, none⟩) (by simp; omega) (.int .u64 q5)).far (p := ⟨R, 3, none⟩) (by simp; omega) (.int .u64 r5)).far (p := ⟨R, 4, none⟩) (by simp; omega) (.int .u64 s5)).alloc (.cells #[.slice a5 m5 l5, .int .u64 p5, .int .u64 q5, .int .u64 r5, .int .u64 s5] 27))
                  have BR7 := Lib.hid (fun ed ei => ((((((((BR.out.ext x7).far (p := ⟨G, I, none⟩) (by simp; omega) (.int .i64 ed)).far (p := ⟨G, D, none⟩) (by simp; omega) (.int .i64 ei)).set_ 0 (.slice a5 m5 l5)).set_ 1 (.int .u64 p5)).set_ 2 (.int .u64 q5)).set_ 3 (.int .u64 r5)).set_ 4 (.int .u64 s5)).alloc (.cells #[.slice a5 m5 l5, .int .u64 p5, .int .u64 q5, .int .u64 r5, .int .u64 s5] 27))
                  have RN7 := Lib.hid (fun ed ei => ((((((hn5.out).set (b := G) (o := I) (by omega) (.int .i64 ed)).set (b := G) (o := D) (by omega) (.int .i64 ei))).set5 (b := R) (by omega) (.slice a5 m5 l5) (.int .u64 p5) (.int .u64 q5) (.int .u64 r5) (.int .u64 s5)).ext (Ext.alloc (Ext.refl _) (.cells #[.slice a5 m5 l5, .int .u64 p5, .int .u64 q5, .int .u64 r5, .int .u64 s5] 27))).at)
                  have XT7 := Lib.hid (show ∀ ed ei, Ext v2 (((((((((v5.setCell ⟨G, I, none⟩ (.int .i64 ed)).setCell ⟨G, D, none⟩ (.int .i64 ei)).setCell ⟨R, 0, none⟩ (.slice a5 m5 l5)).setCell ⟨R, 1, none⟩ (.int .u64 p5)).setCell ⟨R, 2, none⟩ (.int .u64 q5)).setCell ⟨R, 3, none⟩ (.int .u64 r5)).setCell ⟨R, 4, none⟩ (.int .u64 s5)).alloc (.cells #[.slice a5 m5 l5, .int .u64 p5, .int .u64 q5, .int .u64 r5, .int .u64 s5] 27)).drew) from fun ed ei => Ext.drew (Ext.alloc (own_ext5 (Ext.setCell (Ext.setCell (x6.tr x7) (by simp; omega) _) (by simp; omega) _) (by omega) _ _ _ _ _) _))
                  have HSW := Lib.hid (show ((shufAt jj g t).set I ((shufAt jj g t).getD D 0)).set D ((shufAt jj g t).getD I 0) = shufAt jj g (t + 1) by rw [shufAt, HI.out, HD.out]; rfl)
                  generalize hei : (shufAt jj g t).getD I 0 = ei at *
                  generalize hed : (shufAt jj g t).getD D 0 = ed at *
                  have kx := kx0 ed
                  have fx := fx0 ed
                  generalize ((shufAt jj g t).set I ed).getD D 0 = ex at kx
                  have hGR : G ≠ R := by omega
                  clear hown5 BEL own_a kx0 fx0 hei hed hn5
                  go_wp2_with fail
                  go_wp2_with fail; refine (num25_any _ _).mono ?_; rintro e w' ⟨rfl, rfl⟩
                  go_wp2_with fail
                  go_region
                  go_wp2_with fail
                  go_roundw
                  case rel => exact ⟨t + 1, a5, m5, l5, p5, q5, r5, s5, by have := HI.out; omega, by have := HI.out; go_num, by rw [← HSW.out]; exact OWN7.out _ _, (BS7.out _ _).drew, (BR7.out _ _).drew, by
                    have h := RN7.out ed ei
                    simp only [Gen.turn]
                    rw [show (jj : Int) - t = (I : Int) + 1 by have := HI.out; omega]
                    exact h.ext (Ext.drew (Ext.refl _)), XT7.out _ _⟩
                  case measure => simp [intOf]; omega
                · obtain rfl : I = 0 := by omega
                  obtain ht2 : t = jj - 1 := by omega
                  rw [ht2] at hown hr
                  have HO := Lib.hid (Row.of_owns hown).1
                  have HRD := Lib.hid hr
                  have BS9 := Lib.hid bs
                  have BP9 := Lib.hid (BP2.out.ext x6)
                  have EQN : Hid (∀ W, Ext wr W → Calls Try.prog 14 #[o2, .slice (some ⟨G, 0, none⟩) jj cap1] W fun e w' => e = .returned (.bool true) ∧ Ext W w') := Lib.hid (fun W x => (eqNumbers_any ((ho2.out.ext x6).ext x) (HO.out.ext x)).mono (by
                    rintro e w' ⟨rfl, kk, rfl⟩
                    exact ⟨by simp, (Ext.refl _).drewN _⟩))
                  have EQR := Lib.hid (fun W (x : Ext wr W) => eq_rand ((hs2.out.ext x6).ext x) (HRD.out.ext x))
                  have MK1 := Lib.hid (fun W (x : Ext wo W) => mask_agg (n := jj) (HR.out.ext x) FINE.out n1 (by omega) q0' (show q ≤ 99 by omega))
                  obtain ⟨K, hK⟩ : ∃ K : Nat, (jj : Int) + (m : Int) = K := ⟨jj + m, by simp⟩
                  have MK3 := Lib.hid (fun W (x : Ext wo W) => mask_agg (n := K) (HR.out.ext x) FINE.out (by omega) (by omega) q0' (show q ≤ 99 by omega))
                  have FG := Lib.hid (masks_fine q jj [] FINE.out)
                  have MTWO : Hid (masks q K [] g = ((masks q jj [] g).1 ++ (masks q m [] (masks q jj [] g).2).1, (masks q m [] (masks q jj [] g).2).2)) := Lib.hid (by rw [show K = jj + m by omega]; exact masks_two q jj m g)
                  have BR9 := Lib.hid br
                  obtain ⟨y0, y1, y2, y3, y4⟩ := blk5 bs
                  obtain ⟨e0, e1, e2, e3, e4⟩ := blk5 br
                  have xwo : Ext wo wr := xo2.tr x6
                  have xww : Ext w wr := xw2.tr x6
                  have lR := br.lt
                  have lS := bs.lt
                  clear hown hr bs br hI1 ht ht2 hk
                  go_wp2_with fail
                  go_wp2_with fail; refine (num25_any _ _).mono ?_; rintro e w' ⟨rfl, rfl⟩
                  go_wp2_with fail
                  refine (EQN.out _ (Ext.refl _)).mono ?_
                  rintro e v7 ⟨rfl, x7⟩
                  clear y0 y1 y2 y3 y4 e0 e1 e2 e3 e4
                  obtain ⟨y0, y1, y2, y3, y4⟩ := blk5 (BS9.out.ext x7)
                  obtain ⟨e0, e1, e2, e3, e4⟩ := blk5 (BR9.out.ext x7)
                  go_wp2_with fail
                  refine (EQR.out _ x7).mono ?_
                  rintro e v8 ⟨rfl, x8⟩
                  have xa8 : Ext wo v8 := xwo.tr (x7.tr x8)
                  have BPa := Lib.hid ((BP9.out.ext x7).ext x8)
                  obtain ⟨y0', y1', y2', y3', y4', y6', y8', y9'⟩ := blk11 BPa.out
                  clear y0 y1 y2 y3 y4 e0 e1 e2 e3 e4 EQN EQR HO BS9 BR9 BP9 hs2 ho2
                  have xw8 : Ext w v8 := xww.tr (x7.tr x8)
                  have lo := xa8.size
                  clear x7 x8 xwo xww x6 xw2 xo2
                  go_wp2_with fail
                  go_wp2_with fail; refine (W100.out _).mono ?_; rintro e w' ⟨rfl, rfl⟩
                  go_wp2_with fail
                  go_wp2_with fail; refine (W31.out _).mono ?_; rintro e w' ⟨rfl, rfl⟩
                  have hm := HM.out
                  go_wp2_with fail
                  refine (MK1.out _ xa8).mono ?_
                  rintro e v9 ⟨oa, a9, m9, l9, p9, q9, r9, s9, rfl, x9, ha, hu⟩
                  have MK2 := Lib.hid (fun W (x : Ext v9 W) => mask_agg (n := m) (hu.out.ext x) FG.out m1 (by omega) q0' (show q ≤ 99 by omega))
                  obtain ⟨z0, z1', z2', z3', z4', z6', z8', z9'⟩ := blk11 (BPa.out.ext x9)
                  have zp9 := (BPa.out.ext x9).lt
                  clear y0' y1' y2' y3' y4' y6' y8' y9' MK1 hm
                  go_wp2_with fail
                  refine (MK2.out _ (by repeat (first | with_reducible exact Ext.refl _ | with_reducible apply Ext.drew | with_reducible apply Ext.drewN | with_reducible apply Ext.alloc | ((with_reducible refine Ext.setCell ?_ ?_ _); rotate_left; focus (first | (simp; done) | (simp; omega) | omega)) | with_reducible refine Ext.tr ?_ x1 | with_reducible refine Ext.tr ?_ x2 | with_reducible refine Ext.tr ?_ x3 | with_reducible refine Ext.tr ?_ x4 | with_reducible refine Ext.tr ?_ x5 | with_reducible refine Ext.tr ?_ x6 | with_reducible refine Ext.tr ?_ x7 | with_reducible refine Ext.tr ?_ x8 | with_reducible refine Ext.tr ?_ x9 | with_reducible refine Ext.tr ?_ xa | with_reducible refine Ext.tr ?_ xb | with_reducible refine Ext.tr ?_ xc | with_reducible refine Ext.tr ?_ xd | with_reducible refine Ext.tr ?_ xf | with_reducible refine Ext.tr ?_ xg | with_reducible refine Ext.tr ?_ hext | with_reducible assumption))).mono ?_
                  rintro e va ⟨ob, aa, ma, la, pa, qa, ra, sa, rfl, xa, hb, hv⟩
                  have xa9 : Ext v9 va := (by repeat (first | with_reducible exact Ext.refl _ | with_reducible apply Ext.drew | with_reducible apply Ext.drewN | with_reducible apply Ext.alloc | ((with_reducible refine Ext.setCell ?_ ?_ _); rotate_left; focus (first | (simp; done) | (simp; omega) | omega)) | with_reducible refine Ext.tr ?_ x1 | with_reducible refine Ext.tr ?_ x2 | with_reducible refine Ext.tr ?_ x3 | with_reducible refine Ext.tr ?_ x4 | with_reducible refine Ext.tr ?_ x5 | with_reducible refine Ext.tr ?_ x6 | with_reducible refine Ext.tr ?_ x7 | with_reducible refine Ext.tr ?_ x8 | with_reducible refine Ext.tr ?_ x9 | with_reducible refine Ext.tr ?_ xa | with_reducible refine Ext.tr ?_ xb | with_reducible refine Ext.tr ?_ xc | with_reducible refine Ext.tr ?_ xd | with_reducible refine Ext.tr ?_ xf | with_reducible refine Ext.tr ?_ xg | with_reducible refine Ext.tr ?_ hext | with_reducible assumption))
                  obtain ⟨y0', y1', y2', y3', y4', y6', y8', y9'⟩ := blk11 ((BPa.out.ext x9).ext xa9)
                  have zpa := ((BPa.out.ext x9).ext xa9).lt
                  clear z0 z1' z2' z3' z4' z6' z8' z9' MK2 xa
                  go_wp2_with fail
                  refine (MK3.out _ (by have h := xa8.tr (x9.tr xa9); exact h.alloc _)).mono ?_
                  rintro e vc ⟨oc, ac, mc, lc, pc, qc, rc, sc_, rfl, xc, hc, ht⟩
                  have BV := Lib.hid ((Blk.new va 27 (rv aa ma la pa qa ra sa)).ext xc)
                  have BT := Lib.hid (Blk.new vc 27 (rv ac mc lc pc qc rc sc_))
                  have zvc := BV.out.lt
                  have xac : Ext va vc := (Ext.alloc (Ext.refl va) _).tr xc
                  have LA := Lib.hid (masks_len q jj [] g)
                  have LB := Lib.hid (masks_len q m [] (masks q jj [] g).2)
                  have CPN := Lib.hid (fun W (x : Ext v9 W) => copyN_any (ha.out.ext x) (by rw [LA.out]; simp; omega))
                  obtain ⟨ad, od, bcap, rfl, hcb⟩ := hb.out.form9 (by rw [LB.out]; simp; omega)
                  rw [LB.out, List.length_nil, Nat.zero_add]
                  have HCB := Lib.hid hcb
                  have xw9 : Ext w vc := (xw8.tr (x9.tr xa9)).tr xac
                  clear y0' y1' y2' y3' y4' y6' y8' y9' MK3 hcb
                  go_wp2_with fail
                  go_wp2_with fail; refine (num25_any _ _).mono ?_; rintro e w' ⟨rfl, rfl⟩
                  go_wp2_with fail
                  go_wp2_with fail; refine (num25_any _ _).mono ?_; rintro e w' ⟨rfl, rfl⟩
                  go_wp2_with fail
                  go_wp2_with fail; refine (num25_any _ _).mono ?_; rintro e w' ⟨rfl, rfl⟩
                  go_wp2_with fail
                  refine (CPN.out _ (by exact (xa9.tr xac).alloc _)).mono ?_
                  rintro e vd ⟨oe, rfl, xd, hoe⟩
                  have xcd : Ext vc vd := (Ext.alloc (Ext.refl vc) _).tr xd
                  have hrow := hoe.lt
                  have hl : ((masks q m [] (masks q jj [] g).2).1.map (Value.int .i64)).length = m * 1 := by rw [List.length_map, LB.out]; simp
                  have hnews := Lib.hid (news_row (w := vd) (b := ad) (o := od) (zs := (masks q m [] (masks q jj [] g).2).1) (k := .i64) (fun i hi => (xac.tr xcd).cell (HCB.out i hi)))
                  have hn2 : (masks q jj [] g).1.length + m ≤ maxLen := by rw [LA.out]; unfold maxLen; simp; omega
                  have hn3 : ((masks q jj [] g).1.length + m) * 8 ≤ 140737488355328 := by rw [LA.out]; simp; omega
                  have HOE := Lib.hid hoe
                  have xds := xd.size
                  have HL := Lib.hid hl
                  obtain ⟨a9', c9', rfl⟩ := mown_form hoe
                  clear hoe hl
                  go_wp2_with (at_builtin; refine (show Hid _ from ?_).out)
                  refine Lib.hid ?_
                  refine BigFrame.wpList_want (by kernel_rfl) (fun Kx hKx => ?_)
                  refine wp_append_own _ _ _ 28 rfl _ 3 i0 (.int .i64 0) 1 8 Try.underlying28 hi0 hz0 hz1 hz2 rfl (by decide) _ _ _ rfl HOE.out ⟨ad, od, none⟩ m bcap ((masks q m [] (masks q jj [] g).2).1.map (Value.int .i64)) rfl HL.out hnews.out (fun u hu => by obtain ⟨x, _, rfl⟩ := List.mem_map.1 hu; rfl) hn2 hn3 xds ?_
                  intro v' w1 hown1 hgrow _
                  refine hKx _ _ ?_
                  clear hKx Kx
                  have X1 := Ext.grown xd hgrow (fun r hr => (hrow r hr).1)
                  have RW := Lib.hid (Row.of_owns (k := .i64) (xs := (masks q jj [] g).1 ++ (masks q m [] (masks q jj [] g).2).1) (by rw [List.map_append]; exact hown1)).1
                  have EQN2 : Hid (∀ W, Ext w1 W → Calls Try.prog 14 #[v', oc] W fun e w' => e = .returned (.bool true) ∧ Ext W w') := Lib.hid (fun W x => (eqNumbers_any (RW.out.ext x) ((hc.out.ext ((Ext.alloc (Ext.refl vc) _).tr X1)).ext x)).mono (by
                    rintro e w' ⟨rfl, kk, rfl⟩
                    exact ⟨by rw [MTWO.out]; simp, (Ext.refl _).drewN _⟩))
                  have EQR2 := Lib.hid (fun W (x : Ext w1 W) => eq_rand ((hv.out.ext (xac.tr ((Ext.alloc (Ext.refl vc) _).tr X1))).ext x) (by have h := (ht.out.ext ((Ext.alloc (Ext.refl vc) _).tr X1)).ext x; rw [MTWO.out] at h; exact h))
                  have BV1 := Lib.hid ((BV.out.alloc _).ext X1)
                  have BT1 := Lib.hid (BT.out.ext X1)
                  have XF := Lib.hid ((xw9.alloc _).tr X1)
                  obtain ⟨y0, y1, y2, y3, y4⟩ := blk5 BV1.out
                  obtain ⟨e0, e1, e2, e3, e4⟩ := blk5 BT1.out
                  clear hgrow hown1 hrow hn2 hn3 HOE xds HL hnews X1 xd xcd BV BT
                  go_wp2_with fail
                  refine (EQN2.out _ (Ext.refl _)).mono ?_
                  rintro e vf ⟨rfl, xf⟩
                  clear y0 y1 y2 y3 y4 e0 e1 e2 e3 e4
                  obtain ⟨y0, y1, y2, y3, y4⟩ := blk5 (BV1.out.ext xf)
                  obtain ⟨e0, e1, e2, e3, e4⟩ := blk5 (BT1.out.ext xf)
                  go_wp2_with fail
                  refine (EQR2.out _ xf).mono ?_
                  rintro e vg ⟨rfl, xg⟩
                  go_wp2_with fail
                  have hext := (XF.out.tr xf).tr xg
                  go_roundw
                  case rel => exact ⟨k + 1, by omega, by go_num, hext⟩
                  case measure => simp [intOf]; omega
      · clear MAY HSC HR
        go_wp2_with fail
        go_roundw
        case rel => exact ⟨k + 1, by omega, by go_num, (by repeat (first | with_reducible exact Ext.refl _ | with_reducible apply Ext.drew | with_reducible apply Ext.drewN | with_reducible apply Ext.alloc | ((with_reducible refine Ext.setCell ?_ ?_ _); rotate_left; focus (first | (simp; done) | (simp; omega) | omega)) | with_reducible refine Ext.tr ?_ x1 | with_reducible refine Ext.tr ?_ x2 | with_reducible refine Ext.tr ?_ x3 | with_reducible refine Ext.tr ?_ x4 | with_reducible refine Ext.tr ?_ x5 | with_reducible refine Ext.tr ?_ x6 | with_reducible refine Ext.tr ?_ x7 | with_reducible refine Ext.tr ?_ x8 | with_reducible refine Ext.tr ?_ x9 | with_reducible refine Ext.tr ?_ xa | with_reducible refine Ext.tr ?_ xb | with_reducible refine Ext.tr ?_ xc | with_reducible refine Ext.tr ?_ xd | with_reducible refine Ext.tr ?_ xf | with_reducible refine Ext.tr ?_ xg | with_reducible refine Ext.tr ?_ hext | with_reducible assumption))⟩
        case measure => simp [intOf]; omega
    · have W := Lib.hid wakes25
      by_cases h1 : k < len
      · go_wp2_with fail
        refine (W.out _).mono ?_
        rintro e w' ⟨rfl, xw⟩
        go_wp2
        go_ret
        exact ⟨rfl, hext.tr xw⟩
      · go_wp2_with fail
        refine (W.out _).mono ?_
        rintro e w' ⟨rfl, xw⟩
        go_wp2
        go_ret
        exact ⟨rfl, hext.tr xw⟩
set_option maxRecDepth 100000 in
theorem sdraws_zero (a : Option Addr) (cap : Nat) (w : World) :
    Calls Try.prog 3 #[.slice a 0 cap] w fun e w' => e = .returned (.bool true) ∧ Ext w w' := by
  have W := Lib.hid wakes25
  go_enter Try.func3, Try.ntmps3
  go_wp2_with fail
  refine wp_loop_rounds 1 ?_
  rw [rounds_succ]
  go_wp2_with fail; refine (W.out _).mono ?_; rintro e v1 ⟨rfl, x1⟩; obtain ⟨c1, f1⟩ := x1.rules; have z1 := x1.size
  go_wp2
  go_ret
  exact ⟨rfl, (by repeat (first | with_reducible exact Ext.refl _ | with_reducible apply Ext.drew | with_reducible apply Ext.drewN | with_reducible apply Ext.alloc | ((with_reducible refine Ext.setCell ?_ ?_ _); rotate_left; focus (first | (simp; done) | (simp; omega) | omega)) | with_reducible refine Ext.tr ?_ x1 | with_reducible refine Ext.tr ?_ x2 | with_reducible refine Ext.tr ?_ x3 | with_reducible refine Ext.tr ?_ x4 | with_reducible refine Ext.tr ?_ x5 | with_reducible refine Ext.tr ?_ x6 | with_reducible refine Ext.tr ?_ x7 | with_reducible refine Ext.tr ?_ x8 | with_reducible refine Ext.tr ?_ x9 | with_reducible refine Ext.tr ?_ xa | with_reducible refine Ext.tr ?_ xb | with_reducible refine Ext.tr ?_ xc | with_reducible refine Ext.tr ?_ xd | with_reducible refine Ext.tr ?_ xf | with_reducible refine Ext.tr ?_ xg | with_reducible refine Ext.tr ?_ hext | with_reducible assumption))⟩
set_option maxRecDepth 100000 in
theorem sdraws_any {H : Type} {enc : TypeId × Value → H} {w : World} {base : Nat} {v : Value} {d : DataW H} {p : List MemPlace}
    (hv : Value.okWide Try.prog w .any base 22 v) (h : DataW.Trod enc Try.prog w 0 (fun _ => true) true 22 v d p) :
    Calls Try.prog 3 #[v] w fun e w' => e = .returned (.bool true) ∧ Ext w w' := by
  rcases askS_open hv h with ⟨a, cap, rfl⟩ | ⟨b, o, len, cap, rfl, h1, h2, h3⟩
  · exact sdraws_zero a cap w
  · exact sdraws_walk b o len cap w h2 h3
end Go.Proofs.Ytmbgaonnknaclaa
