/- norm.Check; elem.New. -/
import Derived.Test.YtjmecongccjcgaaTens
import Derived.Test.YtjmecongccjcgaaClones
import Derived.Test.YtjmecongccjcgaaIntsB
namespace Go.Proofs.Ytjmecongccjcgaa
open Go.RowKit
attribute [local go_sem ↓] Go.wp_at_zero Go.wp_at_succ
/-- What is wrong with a norm's arguments. -/
def nchk (xs ds : List Int) (eps f : Int) : Int := if tenB xs ds && gd eps && decide (0 < eps) && gdF f then (if xs.length = 0 then 2 else 0) else 1
set_option maxHeartbeats 2000000 in
theorem nCheck_any {s d : Value} {xs ds : List Int} {w : World} {eps f : Int} (hs : Row .i64 w s xs) (hd : Row .i64 w d ds) :
    Calls Try.prog 49 #[.agg #[s, d], .int .i64 eps, .int .i64 f] w fun e w' => e = .returned (.int .i64 (nchk xs ds eps f)) ∧ Ext w w' := by
  have G := Lib.hid (fun u (x : Ext w u) => egood_any (hs.ext x) (hd.ext x))
  obtain ⟨a, ca, rfl, la⟩ := hs.form
  obtain ⟨b, cb, rfl, lb⟩ := hd.form
  clear hs hd
  cases h1 : tenB xs ds
  · have E := Lib.hid (show nchk xs ds eps f = 1 by simp [nchk, h1])
    rw [h1] at G
    clear h1
    go_enter Try.func49, Try.ntmps49
    go_wp2_with fail; refine (G.out _ (by repeat (first | with_reducible exact Ext.refl _ | with_reducible apply Ext.drew | with_reducible apply Ext.drewN | with_reducible apply Ext.alloc | ((with_reducible refine Ext.setCell ?_ ?_ _); rotate_left; focus (first | (simp; done) | (simp; omega) | omega)) | with_reducible refine Ext.tr ?_ x1 | with_reducible refine Ext.tr ?_ x3 | with_reducible assumption))).mono ?_; rintro e v1 ⟨rfl, x1⟩; obtain ⟨c1, f1⟩ := x1.rules; have z1 := x1.size; have k1_0_0 := c1 (w.heap.size) 0 (by first | (simp; done) | (simp; omega) | omega); have q1_0_0 := f1 (w.heap.size) 0 (by first | (simp; done) | (simp; omega) | omega); have k1_0_1 := c1 (w.heap.size) 1 (by first | (simp; done) | (simp; omega) | omega); have q1_0_1 := f1 (w.heap.size) 1 (by first | (simp; done) | (simp; omega) | omega); have z1_0 : w.heap.size < v1.heap.size := (by (try simp at z1); omega); (try simp at z1); clear c1 f1; simp [go_sem, *] at k1_0_0 q1_0_0 k1_0_1 q1_0_1
    go_wp2
    go_ret
    exact ⟨by rw [E.out]; rfl, (by repeat (first | with_reducible exact Ext.refl _ | with_reducible apply Ext.drew | with_reducible apply Ext.drewN | with_reducible apply Ext.alloc | ((with_reducible refine Ext.setCell ?_ ?_ _); rotate_left; focus (first | (simp; done) | (simp; omega) | omega)) | with_reducible refine Ext.tr ?_ x1 | with_reducible refine Ext.tr ?_ x3 | with_reducible assumption))⟩
  rw [h1] at G
  have GE := Lib.hid (fun u => good_any eps u)
  cases h2 : gd eps
  · have E := Lib.hid (show nchk xs ds eps f = 1 by simp [nchk, h2])
    rw [h2] at GE
    clear h1 h2
    go_enter Try.func49, Try.ntmps49
    go_wp2_with fail; refine (G.out _ (by repeat (first | with_reducible exact Ext.refl _ | with_reducible apply Ext.drew | with_reducible apply Ext.drewN | with_reducible apply Ext.alloc | ((with_reducible refine Ext.setCell ?_ ?_ _); rotate_left; focus (first | (simp; done) | (simp; omega) | omega)) | with_reducible refine Ext.tr ?_ x1 | with_reducible refine Ext.tr ?_ x3 | with_reducible assumption))).mono ?_; rintro e v1 ⟨rfl, x1⟩; obtain ⟨c1, f1⟩ := x1.rules; have z1 := x1.size; have k1_0_0 := c1 (w.heap.size) 0 (by first | (simp; done) | (simp; omega) | omega); have q1_0_0 := f1 (w.heap.size) 0 (by first | (simp; done) | (simp; omega) | omega); have k1_0_1 := c1 (w.heap.size) 1 (by first | (simp; done) | (simp; omega) | omega); have q1_0_1 := f1 (w.heap.size) 1 (by first | (simp; done) | (simp; omega) | omega); have z1_0 : w.heap.size < v1.heap.size := (by (try simp at z1); omega); (try simp at z1); clear c1 f1; simp [go_sem, *] at k1_0_0 q1_0_0 k1_0_1 q1_0_1
    go_wp2_with fail; refine (GE.out _).mono ?_; rintro e w' ⟨rfl, rfl⟩
    go_wp2
    go_ret
    exact ⟨by rw [E.out]; rfl, (by repeat (first | with_reducible exact Ext.refl _ | with_reducible apply Ext.drew | with_reducible apply Ext.drewN | with_reducible apply Ext.alloc | ((with_reducible refine Ext.setCell ?_ ?_ _); rotate_left; focus (first | (simp; done) | (simp; omega) | omega)) | with_reducible refine Ext.tr ?_ x1 | with_reducible refine Ext.tr ?_ x3 | with_reducible assumption))⟩
  rw [h2] at GE
  by_cases h3 : 0 < eps
  · have GF := Lib.hid (fun u => goodF_any f u)
    have nl : ¬ eps ≤ 0 := by omega
    cases h4 : gdF f
    · have E := Lib.hid (show nchk xs ds eps f = 1 by simp [nchk, h4])
      rw [h4] at GF
      clear h1 h2 h4
      go_enter Try.func49, Try.ntmps49
      go_wp2_with fail; refine (G.out _ (by repeat (first | with_reducible exact Ext.refl _ | with_reducible apply Ext.drew | with_reducible apply Ext.drewN | with_reducible apply Ext.alloc | ((with_reducible refine Ext.setCell ?_ ?_ _); rotate_left; focus (first | (simp; done) | (simp; omega) | omega)) | with_reducible refine Ext.tr ?_ x1 | with_reducible refine Ext.tr ?_ x3 | with_reducible assumption))).mono ?_; rintro e v1 ⟨rfl, x1⟩; obtain ⟨c1, f1⟩ := x1.rules; have z1 := x1.size; have k1_0_0 := c1 (w.heap.size) 0 (by first | (simp; done) | (simp; omega) | omega); have q1_0_0 := f1 (w.heap.size) 0 (by first | (simp; done) | (simp; omega) | omega); have k1_0_1 := c1 (w.heap.size) 1 (by first | (simp; done) | (simp; omega) | omega); have q1_0_1 := f1 (w.heap.size) 1 (by first | (simp; done) | (simp; omega) | omega); have z1_0 : w.heap.size < v1.heap.size := (by (try simp at z1); omega); (try simp at z1); clear c1 f1; simp [go_sem, *] at k1_0_0 q1_0_0 k1_0_1 q1_0_1
      go_wp2_with fail; refine (GE.out _).mono ?_; rintro e w' ⟨rfl, rfl⟩
      go_wp2_with fail; refine (GF.out _).mono ?_; rintro e w' ⟨rfl, rfl⟩
      go_wp2
      go_ret
      exact ⟨by rw [E.out]; rfl, (by repeat (first | with_reducible exact Ext.refl _ | with_reducible apply Ext.drew | with_reducible apply Ext.drewN | with_reducible apply Ext.alloc | ((with_reducible refine Ext.setCell ?_ ?_ _); rotate_left; focus (first | (simp; done) | (simp; omega) | omega)) | with_reducible refine Ext.tr ?_ x1 | with_reducible refine Ext.tr ?_ x3 | with_reducible assumption))⟩
    · rw [h4] at GF
      by_cases h5 : xs.length = 0
      · have E := Lib.hid (show nchk xs ds eps f = 2 by simp [nchk, h1, h2, h3, h4, h5])
        clear h1 h2 h4
        have h5' : ((xs.length : Int) == 0) = true := by simp [h5]
        clear h5
        go_enter Try.func49, Try.ntmps49
        go_wp2_with fail; refine (G.out _ (by repeat (first | with_reducible exact Ext.refl _ | with_reducible apply Ext.drew | with_reducible apply Ext.drewN | with_reducible apply Ext.alloc | ((with_reducible refine Ext.setCell ?_ ?_ _); rotate_left; focus (first | (simp; done) | (simp; omega) | omega)) | with_reducible refine Ext.tr ?_ x1 | with_reducible refine Ext.tr ?_ x3 | with_reducible assumption))).mono ?_; rintro e v1 ⟨rfl, x1⟩; obtain ⟨c1, f1⟩ := x1.rules; have z1 := x1.size; have k1_0_0 := c1 (w.heap.size) 0 (by first | (simp; done) | (simp; omega) | omega); have q1_0_0 := f1 (w.heap.size) 0 (by first | (simp; done) | (simp; omega) | omega); have k1_0_1 := c1 (w.heap.size) 1 (by first | (simp; done) | (simp; omega) | omega); have q1_0_1 := f1 (w.heap.size) 1 (by first | (simp; done) | (simp; omega) | omega); have z1_0 : w.heap.size < v1.heap.size := (by (try simp at z1); omega); (try simp at z1); clear c1 f1; simp [go_sem, *] at k1_0_0 q1_0_0 k1_0_1 q1_0_1
        go_wp2_with fail; refine (GE.out _).mono ?_; rintro e w' ⟨rfl, rfl⟩
        go_wp2_with fail; refine (GF.out _).mono ?_; rintro e w' ⟨rfl, rfl⟩
        go_wp2
        go_ret
        exact ⟨by rw [E.out]; rfl, (by repeat (first | with_reducible exact Ext.refl _ | with_reducible apply Ext.drew | with_reducible apply Ext.drewN | with_reducible apply Ext.alloc | ((with_reducible refine Ext.setCell ?_ ?_ _); rotate_left; focus (first | (simp; done) | (simp; omega) | omega)) | with_reducible refine Ext.tr ?_ x1 | with_reducible refine Ext.tr ?_ x3 | with_reducible assumption))⟩
      · have E := Lib.hid (show nchk xs ds eps f = 0 by simp [nchk, h1, h2, h3, h4, h5])
        clear h1 h2 h4
        have h5' : ((xs.length : Int) == 0) = false := by rw [beq_eq_false_iff_ne]; omega
        clear h5
        go_enter Try.func49, Try.ntmps49
        go_wp2_with fail; refine (G.out _ (by repeat (first | with_reducible exact Ext.refl _ | with_reducible apply Ext.drew | with_reducible apply Ext.drewN | with_reducible apply Ext.alloc | ((with_reducible refine Ext.setCell ?_ ?_ _); rotate_left; focus (first | (simp; done) | (simp; omega) | omega)) | with_reducible refine Ext.tr ?_ x1 | with_reducible refine Ext.tr ?_ x3 | with_reducible assumption))).mono ?_; rintro e v1 ⟨rfl, x1⟩; obtain ⟨c1, f1⟩ := x1.rules; have z1 := x1.size; have k1_0_0 := c1 (w.heap.size) 0 (by first | (simp; done) | (simp; omega) | omega); have q1_0_0 := f1 (w.heap.size) 0 (by first | (simp; done) | (simp; omega) | omega); have k1_0_1 := c1 (w.heap.size) 1 (by first | (simp; done) | (simp; omega) | omega); have q1_0_1 := f1 (w.heap.size) 1 (by first | (simp; done) | (simp; omega) | omega); have z1_0 : w.heap.size < v1.heap.size := (by (try simp at z1); omega); (try simp at z1); clear c1 f1; simp [go_sem, *] at k1_0_0 q1_0_0 k1_0_1 q1_0_1
        go_wp2_with fail; refine (GE.out _).mono ?_; rintro e w' ⟨rfl, rfl⟩
        go_wp2_with fail; refine (GF.out _).mono ?_; rintro e w' ⟨rfl, rfl⟩
        go_wp2
        go_ret
        exact ⟨by rw [E.out]; rfl, (by repeat (first | with_reducible exact Ext.refl _ | with_reducible apply Ext.drew | with_reducible apply Ext.drewN | with_reducible apply Ext.alloc | ((with_reducible refine Ext.setCell ?_ ?_ _); rotate_left; focus (first | (simp; done) | (simp; omega) | omega)) | with_reducible refine Ext.tr ?_ x1 | with_reducible refine Ext.tr ?_ x3 | with_reducible assumption))⟩
  · have E := Lib.hid (show nchk xs ds eps f = 1 by simp [nchk, h3])
    have nl : eps ≤ 0 := by omega
    clear h1 h2
    go_enter Try.func49, Try.ntmps49
    go_wp2_with fail; refine (G.out _ (by repeat (first | with_reducible exact Ext.refl _ | with_reducible apply Ext.drew | with_reducible apply Ext.drewN | with_reducible apply Ext.alloc | ((with_reducible refine Ext.setCell ?_ ?_ _); rotate_left; focus (first | (simp; done) | (simp; omega) | omega)) | with_reducible refine Ext.tr ?_ x1 | with_reducible refine Ext.tr ?_ x3 | with_reducible assumption))).mono ?_; rintro e v1 ⟨rfl, x1⟩; obtain ⟨c1, f1⟩ := x1.rules; have z1 := x1.size; have k1_0_0 := c1 (w.heap.size) 0 (by first | (simp; done) | (simp; omega) | omega); have q1_0_0 := f1 (w.heap.size) 0 (by first | (simp; done) | (simp; omega) | omega); have k1_0_1 := c1 (w.heap.size) 1 (by first | (simp; done) | (simp; omega) | omega); have q1_0_1 := f1 (w.heap.size) 1 (by first | (simp; done) | (simp; omega) | omega); have z1_0 : w.heap.size < v1.heap.size := (by (try simp at z1); omega); (try simp at z1); clear c1 f1; simp [go_sem, *] at k1_0_0 q1_0_0 k1_0_1 q1_0_1
    go_wp2_with fail; refine (GE.out _).mono ?_; rintro e w' ⟨rfl, rfl⟩
    go_wp2
    go_ret
    exact ⟨by rw [E.out]; rfl, (by repeat (first | with_reducible exact Ext.refl _ | with_reducible apply Ext.drew | with_reducible apply Ext.drewN | with_reducible apply Ext.alloc | ((with_reducible refine Ext.setCell ?_ ?_ _); rotate_left; focus (first | (simp; done) | (simp; omega) | omega)) | with_reducible refine Ext.tr ?_ x1 | with_reducible refine Ext.tr ?_ x3 | with_reducible assumption))⟩
/-- A row that is owned, told by its block. -/
theorem own_cur {w : World} {base g n cap : Nat} {t : TypeId} {xs : List Value} (h : w.ownsRow base t 1 (.slice (some ⟨g, 0, none⟩) n cap) n xs) : ∃ cur : Array Value, Blk w g t cur ∧ cur.size = cap ∧ n ≤ cap ∧ cap ≤ maxLen ∧ cur.toList.take n = xs ∧ base ≤ g := by
  rcases h.2 with ⟨h0, _⟩ | ⟨g', cap', cur, hv, hb, hg, h1, h2, hs, ht⟩
  · cases h0
  · cases hv
    exact ⟨cur, hg, by rw [hs, Nat.mul_one], h1, h2, by rw [← ht, Nat.mul_one], hb⟩
theorem own_of_cur {w : World} {base g n cap : Nat} {t : TypeId} {xs : List Value} {cur : Array Value} (h : Blk w g t cur) (hs : cur.size = cap) (h1 : n ≤ cap) (h2 : cap ≤ maxLen) (ht : cur.toList.take n = xs) (hb : base ≤ g) : w.ownsRow base t 1 (.slice (some ⟨g, 0, none⟩) n cap) n xs := by
  refine ⟨?_, .inr ⟨g, cap, cur, rfl, hb, h, h1, h2, by rw [hs, Nat.mul_one], by rw [Nat.mul_one]; exact ht⟩⟩
  rw [← ht, List.length_take, Array.length_toList]; omega
theorem i64_info' : (Try.prog.info? 2).map (fun i => (i.zero, i.size, i.bytes)) = some (some (.int .i64 0), 1, 8) := by kernel_rfl
set_option maxHeartbeats 2000000 in
set_option maxRecDepth 100000 in
theorem elemNew_some {s : Value} {xs : List Int} {w : World} (hs : Row .i64 w s xs) (hl : 0 < xs.length) (hD : Dims xs) (hp : pr xs ≤ 65536) (n : Nat) (hn : pr xs = n) :
    Calls Try.prog 44 #[s] w fun e w' => ∃ (g1 c1 : Nat) (cur : Array Value) (g2 : Nat), e = .returned (.agg #[.slice (some ⟨g1, 0, none⟩) xs.length c1, .slice (some ⟨g2, 0, none⟩) n n]) ∧ Ext w w' ∧ Blk w' g1 3 cur ∧ cur.size = c1 ∧ xs.length ≤ c1 ∧ c1 ≤ maxLen ∧ cur.toList.take xs.length = xs.map (Value.int .i64) ∧ Blk w' g2 2 (ints (List.replicate n 0)) ∧ w.heap.size < g1 ∧ g1 < g2 := by
  have C := Lib.hid (fun u (x : Ext w u) => cloneI_any (hs.ext x) (by have := hD.1; omega))
  have S := Lib.hid (fun u (x : Ext w u) => size_any (hs.ext x) hD)
  rw [hn] at S
  obtain ⟨i0, hi0, hz0, hz1, hz2⟩ := info_parts i64_info'
  obtain ⟨a, ca, rfl, la⟩ := hs.form
  have n1 : (n : Int) ≤ 65536 := by omega
  clear hs hD hp
  go_enter Try.func44, Try.ntmps44
  go_wp2_with fail; refine (C.out _ (by repeat (first | with_reducible exact Ext.refl _ | with_reducible apply Ext.drew | with_reducible apply Ext.drewN | with_reducible apply Ext.alloc | ((with_reducible refine Ext.setCell ?_ ?_ _); rotate_left; focus (first | (simp; done) | (simp; omega) | omega)) | with_reducible refine Ext.tr ?_ x1 | with_reducible refine Ext.tr ?_ x3 | with_reducible assumption))).mono ?_; rintro e v1 ⟨q1, rfl, x1, h1⟩; obtain ⟨c1, f1⟩ := x1.rules; have z1 := x1.size; have k1_0_0 := c1 (w.heap.size) 0 (by first | (simp; done) | (simp; omega) | omega); have q1_0_0 := f1 (w.heap.size) 0 (by first | (simp; done) | (simp; omega) | omega); have k1_0_1 := c1 (w.heap.size) 1 (by first | (simp; done) | (simp; omega) | omega); have q1_0_1 := f1 (w.heap.size) 1 (by first | (simp; done) | (simp; omega) | omega); have z1_0 : w.heap.size < v1.heap.size := (by (try simp at z1); omega); (try simp at z1); clear c1 f1; simp [go_sem, *] at k1_0_0 q1_0_0 k1_0_1 q1_0_1
  obtain ⟨g1, c1, rfl, hb1, hlt1⟩ := h1.form (by simpa using hl)
  have H1 := Lib.hid h1
  clear h1 C
  go_wp2_with fail
  refine (S.out _ (by repeat (first | with_reducible exact Ext.refl _ | with_reducible apply Ext.drew | with_reducible apply Ext.drewN | with_reducible apply Ext.alloc | ((with_reducible refine Ext.setCell ?_ ?_ _); rotate_left; focus (first | (simp; done) | (simp; omega) | omega)) | with_reducible refine Ext.tr ?_ x1 | with_reducible refine Ext.tr ?_ x3 | with_reducible assumption))).mono ?_
  rintro e w' ⟨rfl, rfl⟩
  clear S
  go_wp2_with (at_make; refine (show Hid _ from ?_).out)
  refine Lib.hid ?_
  refine wpList_make_full _ rfl _ _ 24 rfl v1.heap.size 2 i0 _ 1 Try.underlying24 hi0 hz0 hz1 _ _ _ _ n rfl rfl (by omega) (by omega) (by rw [hz2]; omega) (by unfold maxLen; omega) (Nat.le_refl _) ?_
  intro v3 hown0 hgrow0
  have hownA : v3.ownsRow v1.heap.size 2 1 (.slice (some ⟨v1.heap.size, 0, none⟩) n n) n ((List.replicate n 0).map (Value.int .i64)) := by
    rw [List.map_replicate]; have h := hown0; rw [Nat.mul_one, show (Value.int .i64 0).cells = #[.int .i64 0] from rfl, toList_madeCells_one] at h; exact h
  have x3 : Ext v1 v3 := Ext.grown (Ext.refl _) hgrow0 (fun r hr => by cases hr)
  have bE := own_blk hownA
  obtain ⟨cur, hb, hc1, hc2, hc3, hc4, hc5⟩ := own_cur (own_old H1.out x3)
  obtain ⟨c3, f3⟩ := x3.rules
  have hg1 : g1 < v1.heap.size := hlt1
  have b0 : Blk v3 w.heap.size 26 #[.slice none 0 0, .slice none 0 0] := ((Blk.new w _ _).ext x1).ext x3
  have xw : Ext w v3 := (by repeat (first | with_reducible exact Ext.refl _ | with_reducible apply Ext.drew | with_reducible apply Ext.drewN | with_reducible apply Ext.alloc | ((with_reducible refine Ext.setCell ?_ ?_ _); rotate_left; focus (first | (simp; done) | (simp; omega) | omega)) | with_reducible refine Ext.tr ?_ x1 | with_reducible refine Ext.tr ?_ x3 | with_reducible assumption))
  have hw1 : w.heap.size < g1 := by simp at hc5; omega
  have k0 := (b0.cell 0).trans (show (#[.slice none 0 0, .slice none 0 0] : Array Value)[0]? = some _ from rfl)
  have k1 := (b0.cell 1).trans (show (#[.slice none 0 0, .slice none 0 0] : Array Value)[1]? = some _ from rfl)
  have q0 := b0.frozen 0
  have q1 := b0.frozen 1
  have XW := Lib.hid xw
  have BE := Lib.hid bE
  have HB := Lib.hid hb
  have C1 := Lib.hid hc1
  have C2 := Lib.hid hc2
  have C3 := Lib.hid hc3
  have C4 := Lib.hid hc4
  clear xw bE hb hc1 hc2 hc3 hc4 hc5 c3 f3 hown0 hgrow0 hownA H1 b0 hb1 k1_0_0 k1_0_1 q1_0_0 q1_0_1
  go_wp2
  simp [bodyPost, results, Try.results44, go_sem, *]
  exact ⟨g1, c1, cur, v1.heap.size, ⟨⟨rfl, rfl⟩, rfl⟩, (XW.out.setCell (by simp) _).setCell (by simp) _, (HB.out.far (by simp; omega) _).far (by simp; omega) _, C1.out, C2.out, C3.out, C4.out, (BE.out.far (by simp; omega) _).far (by simp; omega) _, hw1, hg1⟩
end Go.Proofs.Ytjmecongccjcgaa
