/- norm.Check; elem.New. elem.New of any shape; rng.Good, seed.count of any; a tensor in new memory whose words lie in one block. -/
import Derived.Test.YtkegefnpmijfiaaGreatQShps
import Derived.Test.YtkegefnpmijfiaaGreatQReckon
import Derived.Test.YtkegefnpmijfiaaGreatQClonesG
import Derived.Test.YtkegefnpmijfiaaGreatQGbI
import Derived.Test.YtkegefnpmijfiaaGreatQShuffle
namespace Go.Proofs.YtkegefnpmijfiaaGreat
open Go.RowKit
attribute [local go_sem ↓] Go.wp_at_zero Go.wp_at_succ
theorem own_of_cur {w : World} {base g n cap : Nat} {t : TypeId} {xs : List Value} {cur : Array Value} (h : Blk w g t cur) (hs : cur.size = cap) (h1 : n ≤ cap) (h2 : cap ≤ maxLen) (ht : cur.toList.take n = xs) (hb : base ≤ g) : w.ownsRow base t 1 (.slice (some ⟨g, 0, none⟩) n cap) n xs := by
  refine ⟨?_, .inr ⟨g, cap, cur, rfl, hb, h, h1, h2, by rw [hs, Nat.mul_one], by rw [Nat.mul_one]; exact ht⟩⟩
  rw [← ht, List.length_take, Array.length_toList]; omega
theorem i64_info' : (Tryz.prog.info? 2).map (fun i => (i.zero, i.size, i.bytes)) = some (some (.int .i64 0), 1, 8) := by kernel_rfl
end Go.Proofs.YtkegefnpmijfiaaGreat
namespace Go.Proofs.YtkegefnpmijfiaaGreat
open Go.RowKit
attribute [local go_sem ↓] Go.wp_at_zero Go.wp_at_succ
/-- A tensor in new memory: its words fill block g. -/
structure TenG (base : Nat) (w : World) (a : Option Addr) (c : Nat) (xs : List Int) (g : Nat) (ds : List Int) : Prop where
  rs : w.ownsRow base 3 1 (.slice a xs.length c) xs.length (xs.map (Value.int .i64))
  bd : Blk w g 2 (ints ds)
  lo : base ≤ g
  ap : (Value.slice a xs.length c).ownBlock ≠ some g
section
variable {base g c : Nat} {w w' : World} {a : Option Addr} {xs ds : List Int}
theorem TenG.ext (h : TenG base w a c xs g ds) (x : Ext w w') : TenG base w' a c xs g ds := ⟨own_old h.rs x, h.bd.ext x, h.lo, h.ap⟩
theorem TenG.low {b : Nat} (h : TenG base w a c xs g ds) (hb : b ≤ base) : TenG b w a c xs g ds := ⟨own_base h.rs hb, h.bd, by have := h.lo; omega, h.ap⟩
theorem TenG.far {b o : Nat} (h : TenG base w a c xs g ds) (hb : b < base) (u : Value) : TenG base (w.setCell ⟨b, o, none⟩ u) a c xs g ds :=
  ⟨ownsRow_setCell_below h.rs hb _, h.bd.far (by have := h.lo; show _ ≠ b; omega) _, h.lo, h.ap⟩
theorem TenG.set_ (h : TenG base w a c xs g ds) (i : Nat) (x : Int) : TenG base (w.setCell ⟨g, i, none⟩ (.int .i64 x)) a c xs g (ds.set i x) :=
  ⟨own_far h.rs h.ap _ _, by rw [← ints_set]; exact h.bd.set_ i _, h.lo, h.ap⟩
theorem TenG.drew (h : TenG base w a c xs g ds) : TenG base w.drew a c xs g ds := ⟨h.rs, h.bd.drew, h.lo, h.ap⟩
end
theorem own_sl {W : World} {base : Nat} {e : TypeId} {size : Nat} {v : Value} {k : Nat} {xs : List Value} (h : W.ownsRow base e size v k xs) : ∃ a cap, v = .slice a k cap := by
  rcases h.2 with ⟨rfl, rfl⟩ | ⟨g, cap, cur, rfl, _⟩
  · exact ⟨_, _, rfl⟩
  · exact ⟨_, _, rfl⟩
set_option maxHeartbeats 2000000 in
set_option maxRecDepth 100000 in
theorem elemNew_any {s : Value} {xs : List Int} {w : World} (hs : Row .i64 w s xs) (hD : Dims xs) (hp : pr xs ≤ 65536) (n : Nat) (hn : pr xs = n) :
    Calls Tryz.prog 89 #[s] w fun e w' => ∃ (a1 : Option Addr) (c1 : Nat) (g2 : Nat), e = .returned (.agg #[.slice a1 xs.length c1, .slice (some ⟨g2, 0, none⟩) n n]) ∧ Ext w w' ∧ Hid (TenG (w.heap.size + 1) w' a1 c1 xs g2 (List.replicate n 0)) := by
  have C := Lib.hid (fun u (x : Ext w u) => cloneI_any (hs.ext x) (by have := hD.1; omega))
  have S := Lib.hid (fun u (x : Ext w u) => size_any (hs.ext x) hD)
  rw [hn] at S
  obtain ⟨i0, hi0, hz0, hz1, hz2⟩ := info_parts i64_info'
  obtain ⟨a, ca, rfl, la⟩ := hs.form'
  have n1 : (n : Int) ≤ 65536 := by omega
  clear hs hD hp
  go_enter Tryz.func89, Tryz.ntmps89
  go_wp2_with fail; refine (C.out _ Ext.q).mono ?_; rintro e v1 ⟨q1, rfl, x1, h1⟩; obtain ⟨c1, f1⟩ := x1.rules; have z1 := x1.size; have lq := fun o => c1 (w.heap.size) o (by first | (simp; done) | (simp; omega) | omega); have mq := fun o => f1 (w.heap.size) o (by first | (simp; done) | (simp; omega) | omega); have k1_0_0 := lq 0; have q1_0_0 := mq 0; have k1_0_1 := lq 1; have q1_0_1 := mq 1; clear lq mq; have z1_0 : w.heap.size < v1.heap.size := (by (try simp at z1); omega); (try simp at z1); clear c1 f1; simp [go_sem, *] at k1_0_0 q1_0_0 k1_0_1 q1_0_1
  obtain ⟨a1, c1, rfl⟩ := own_sl h1
  have H1 := Lib.hid h1
  clear h1 C
  go_wp2_with fail
  refine (S.out _ Ext.q).mono ?_
  rintro e w' ⟨rfl, rfl⟩
  clear S
  go_wp2_with (at_make; refine (show Hid _ from ?_).out)
  refine Lib.hid ?_
  refine wpList_make_full _ rfl _ _ 24 rfl v1.heap.size 2 i0 _ 1 Tryz.underlying24 hi0 hz0 hz1 _ _ _ _ n rfl rfl (by omega) (by omega) (by rw [hz2]; omega) (by unfold maxLen; omega) (Nat.le_refl _) ?_
  intro v3 hown0 hgrow0
  have hownA : v3.ownsRow v1.heap.size 2 1 (.slice (some ⟨v1.heap.size, 0, none⟩) n n) n ((List.replicate n 0).map (Value.int .i64)) := by
    rw [List.map_replicate]; have h := hown0; rw [Nat.mul_one, show (Value.int .i64 0).cells = #[.int .i64 0] from rfl, toList_madeCells_one] at h; exact h
  have x3 : Ext v1 v3 := Ext.grown (Ext.refl _) hgrow0 (fun r hr => by cases hr)
  have hs1 : w.heap.size + 1 ≤ v1.heap.size := by have := x1.size; simpa using this
  have T : TenG (w.heap.size + 1) v3 a1 c1 xs v1.heap.size (List.replicate n 0) :=
    ⟨own_base (own_old H1.out x3) (by simp), own_blk hownA, hs1, fun e => by have := (H1.out.lt _ e).2; omega⟩
  have b0 : Blk v3 w.heap.size 26 #[.slice none 0 0, .slice none 0 0] := ((Blk.new w _ _).ext x1).ext x3
  have xw : Ext w v3 := Ext.q
  have k0 := (b0.cell 0).trans (show (#[.slice none 0 0, .slice none 0 0] : Array Value)[0]? = some _ from rfl)
  have k1 := (b0.cell 1).trans (show (#[.slice none 0 0, .slice none 0 0] : Array Value)[1]? = some _ from rfl)
  have q0 := b0.frozen 0
  have q1 := b0.frozen 1
  have XW := Lib.hid xw
  have HT := Lib.hid T
  clear xw T x3 hown0 hgrow0 hownA H1 b0 k1_0_0 k1_0_1 q1_0_0 q1_0_1 hs1
  go_wp2
  simp [bodyPost, results, Tryz.results89, go_sem, *]
  exact ⟨_, _, _, ⟨⟨rfl, rfl⟩, rfl⟩, (XW.out.setCell (by simp) _).setCell (by simp) _, Lib.hid ((HT.out.far (by omega) _).far (by omega) _)⟩
set_option maxRecDepth 100000 in
set_option maxHeartbeats 1000000 in
theorem good_rand_no {v : Value} {g : Gen} {w : World} (h : RandAt w v g) (hg : goodG g = false) :
    Calls Tryz.prog 118 #[v] w fun e w' => e = .returned (.bool false) ∧ Ext w w' := by
  obtain ⟨a, c, rfl, hr⟩ := h
  rcases Nat.lt_or_ge 4096 g.script.length with hl | hl
  · obtain ⟨sc, ⟨A, B, C, D⟩⟩ := g
    simp only at hr hl ⊢
    obtain ⟨a', cap, e, h1, h2, h3⟩ := hr
    cases e
    unfold maxLen at h2
    clear h3 hg
    generalize iv A = x0 at *
    generalize iv B = x1 at *
    generalize iv C = x2 at *
    generalize iv D = x3 at *
    go_enter Tryz.func118, Tryz.ntmps118
    go_wp2
    go_ret
    exact ⟨rfl, Ext.q⟩
  · have hz : stz g.st = true := by rw [goodG_of hl] at hg; simpa using hg
    obtain ⟨sc, ⟨A, B, C, D⟩⟩ := g
    simp only at hr hl hz ⊢
    obtain ⟨a', cap, e, h1, h2, h3⟩ := hr
    cases e
    unfold maxLen at h2
    clear h3 hg
    simp only [stz, Bool.and_eq_true, decide_eq_true_eq] at hz
    obtain ⟨⟨⟨z0, z1⟩, z2⟩, z3⟩ := hz
    rw [z0, z1, z2, z3]
    have R := fun (w : World) => run_ne4 w 0 0 0 0 0 0 0 0
    rw [show (!(((0 : Int) == (0 : Int)) && ((0 : Int) == (0 : Int)) && ((0 : Int) == (0 : Int)) && ((0 : Int) == (0 : Int)))) = false from by decide] at R
    clear z0 z1 z2 z3
    go_enter Tryz.func118, Tryz.ntmps118
    go_wp2
    go_ret
    exact ⟨rfl, Ext.q⟩
theorem good_all {v : Value} {g : Gen} {w : World} (h : RandAt w v g) :
    Calls Tryz.prog 118 #[v] w fun e w' => e = .returned (.bool (goodG g)) ∧ Ext w w' := by
  cases hg : goodG g
  · exact good_rand_no h hg
  · exact good_rand h hg
/-- From 1 to 65536. -/
def fanB (n : Int) : Bool := decide (1 ≤ n) && decide (n ≤ 65536)
theorem seedCount_any (n : Int) (w : World) : Calls Tryz.prog 119 #[.int .i64 n] w fun e w' => e = .returned (.bool (fanB n)) ∧ w = w' := by
  unfold fanB
  by_cases h1 : 1 ≤ n
  · by_cases h2 : n ≤ 65536
    · have e : (decide (1 ≤ n) && decide (n ≤ 65536)) = true := by simp [h1, h2]
      rw [e]
      exact seedCount_ok n h1 h2 w
    · have e : (decide (1 ≤ n) && decide (n ≤ 65536)) = false := by simp [h2]
      rw [e]
      clear e
      go_enter Tryz.func119, Tryz.ntmps119
      go_wp2
      go_ret
      exact ⟨rfl, rfl⟩
  · have e : (decide (1 ≤ n) && decide (n ≤ 65536)) = false := by simp [h1]
    rw [e]
    clear e
    go_enter Tryz.func119, Tryz.ntmps119
    go_wp2
    go_ret
    exact ⟨rfl, rfl⟩
end Go.Proofs.YtkegefnpmijfiaaGreat
