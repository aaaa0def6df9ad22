/- norm.Of: what is known of a row. -/
import Derived.Test.YtjmecongccjcgaaNormW
import Derived.Test.YtjmecongccjcgaaNormLaw
import Derived.Test.YtjmecongccjcgaaIntsB
import Derived.Test.YtjmecongccjcgaaClones
import Derived.Test.YtjmecongccjcgaaWDvd
namespace Go.Proofs.Ytjmecongccjcgaa
open Go.RowKit
attribute [local go_sem ↓] Go.wp_at_zero Go.wp_at_succ
/-- The words of a row less their mean, each n times. -/
def offL (ds : List Int) : List Int := (List.range ds.length).map (offN (fun i => ds.getD i 0) ds.length)
theorem offL_len (ds : List Int) : (offL ds).length = ds.length := by simp [offL]
theorem offL_at {ds : List Int} {k : Nat} (h : k < ds.length) : (offL ds).getD k 0 = offN (fun i => ds.getD i 0) ds.length k := by
  simp [offL, h]
theorem range_snoc (g : Nat → Int) (k : Nat) : (List.range (k + 1)).map g = (List.range k).map g ++ [g k] := by simp [List.range_succ]
def sqN (g : Nat → Int) (n k : Nat) : Int := sumN (fun i => offN g n i * offN g n i) k
theorem sqN_succ (g : Nat → Int) (n k : Nat) : sqN g n (k + 1) = sqN g n k + offN g n k * offN g n k := rfl
theorem sqN_bd {g : Nat → Int} {n k : Nat} (hg : ∀ i, i < n → -140737488355328 < g i ∧ g i < 140737488355328) (hn : n ≤ 24) (hk : k ≤ n) : 0 ≤ sqN g n k ∧ sqN g n k ≤ k * 45635421608216258453881315393536 := by
  refine ⟨sumN_nn k (fun i _ => sq_nn _), ?_⟩
  unfold sqN
  rw [← sumN_const]
  refine sumN_le (fun i hi => ?_)
  have := (offN_bd hg hn (show i < n by omega)).2.2
  have h := sq_mag (a := offN g n i) (b := 6755399441055744) (by unfold mag; split <;> simp <;> omega)
  omega
/-- What norm.Of knows of a row, as a world holds it, in blocks from base on. -/
structure SpreadAt (base : Nat) (w : World) (v : Value) (ds : List Int) (eps f : Int) : Prop where
  is : ∃ a c a2 k2 c2, v = .agg #[.slice a ds.length c, .bool false, .slice a2 k2 c2, .int .i64 f] ∧ Row .i64 w (.slice a ds.length c) (offL ds) ∧ NatAt w (.slice a2 k2 c2) (roomN (fun i => ds.getD i 0) ds.length eps f) 2 ∧
    (∀ b, (Value.slice a ds.length c).ownBlock = some b → base ≤ b) ∧ (∀ b, (Value.slice a2 k2 c2).ownBlock = some b → base ≤ b)
theorem SpreadAt.ext {base : Nat} {w w' : World} {v : Value} {ds : List Int} {eps f : Int} (h : SpreadAt base w v ds eps f) (x : Ext w w') : SpreadAt base w' v ds eps f := by
  obtain ⟨a, c, a2, k2, c2, h1, h2, h3, h4, h5⟩ := h.is
  exact ⟨⟨a, c, a2, k2, c2, h1, h2.ext x, h3.ext x, h4, h5⟩⟩
theorem off_base {base g : Nat} {v : Value} (h : ∀ b, v.ownBlock = some b → base ≤ b) (hg : g < base) : Off g v := by
  intro a n c e _ hb
  subst e
  have := h a.block rfl
  omega
theorem SpreadAt.set {base : Nat} {w : World} {v : Value} {ds : List Int} {eps f : Int} {g o : Nat} (h : SpreadAt base w v ds eps f) (hg : g < base) (u : Value) : SpreadAt base (w.setCell ⟨g, o, none⟩ u) v ds eps f := by
  obtain ⟨a, c, a2, k2, c2, h1, h2, h3, h4, h5⟩ := h.is
  exact ⟨⟨a, c, a2, k2, c2, h1, ((GB.refl w g).set o u).row h2 (off_base h4 hg), h3.off (off_base h5 hg), h4, h5⟩⟩
theorem i64_info : (Try.prog.info? 2).map (fun i => (i.zero, i.size, i.bytes)) = some (some (.int .i64 0), 1, 8) := by kernel_rfl
theorem wAdd_nn {a1 : Option Addr} {k1 c1 : Nat} {v : Value} {x y : Int} {L : Nat} {w : World} (hu : NatAt w (.slice a1 k1 c1) x L) (hv : IntAt w v y L) (hL : L ≤ 400000) (x0 : 0 ≤ x) (y0 : 0 ≤ y) (hs : x + y < 2 ^ (64 * L)) :
    Calls Try.prog 80 #[.agg #[.bool false, .slice a1 k1 c1], v] w fun e w' => ∃ a k c, e = .returned (.agg #[.bool false, .slice a k c]) ∧ Ext w w' ∧ NatAt w' (.slice a k c) (x + y) L ∧ New w (.slice a k c) := by
  have sx : false = decide (x < 0) := by symm; simp; omega
  refine (wAdd_ref (IntAt.of sx (by rw [mag_of x0]; exact hu)) hv hL (by rw [← sx]; symm; simp; omega)).mono ?_
  rintro e w' ⟨q, rfl, x1, h1, n1⟩
  obtain ⟨a, k, c, rfl, h2⟩ := h1.form
  have ss : decide (x + y < 0) = false := by simp; omega
  rw [mag_of (by omega)] at h2
  exact ⟨a, k, c, by rw [ss], x1, h2.small hs, n1 _ _ rfl⟩
theorem IntAt.cut {w : World} {v : Value} {x : Int} {L k : Nat} (h : IntAt w v x L) (x0 : 0 ≤ x) (hx : x < 2 ^ (64 * k)) : IntAt w v x k := by
  obtain ⟨a, n, c, rfl, m⟩ := h.form
  exact IntAt.of rfl (m.small (by rw [mag_of x0]; exact hx))
theorem Off.app {w : World} {v m : Value} {x : Int} {L g H : Nat} (hm : NatAt w m x L) (hA : ∀ r, v.ownBlock = some r → Off r m) (h : v.ownBlock = some g ∨ g = H) (hH : w.heap.size ≤ H) : Off g m := by
  rcases h with h | rfl
  · exact hA g h
  · exact hm.old hH
theorem Row.grownOff {k : IntKind} {w w' : World} {v : Value} {ds : List Int} {row : Option Nat} (h : Row k w v ds) (hg : w.grownBy w' row) (ho : ∀ r, row = some r → Off r v) : Row k w' v ds := by
  obtain ⟨a, cap, rfl, h1, h2, h3⟩ := h
  refine ⟨a, cap, rfl, h1, h2, fun hn => ?_⟩
  obtain ⟨b, o, rfl, hc⟩ := h3 hn
  have hp : 0 < ds.length := List.length_pos_iff.2 hn
  exact ⟨b, o, rfl, fun i hi => (World.cell?_of_block (a := ⟨b, o + i, none⟩) (hg.block b (cell_lt (hc 0 hp)) (fun e => ho b e.symm _ _ _ rfl hp rfl))).trans (hc i hi)⟩
theorem NatAt.grownOff {w w' : World} {v : Value} {x : Int} {L : Nat} {row : Option Nat} (h : NatAt w v x L) (hg : w.grownBy w' row) (ho : ∀ r, row = some r → Off r v) : NatAt w' v x L := by
  obtain ⟨ds, h1, h2, h3, h4, h5⟩ := h.is
  exact ⟨⟨ds, h1.grownOff hg ho, h2, h3, h4, h5⟩⟩
set_option maxHeartbeats 4000000 in
set_option maxRecDepth 100000 in
theorem nOf_any {u : Value} {ds : List Int} {w : World} {eps f : Int} (hx : Row .i64 w u ds) (hg : ∀ i, i < ds.length → -140737488355328 < ds.getD i 0 ∧ ds.getD i 0 < 140737488355328) (hn : ds.length ≤ 24) (e0 : 0 < eps) (e1 : eps < 140737488355328) (f0 : 8 ≤ f) (f1 : f ≤ 32) :
    Calls Try.prog 51 #[u, .int .i64 eps, .int .i64 f] w fun e w' => ∃ v, e = .returned v ∧ Ext w w' ∧ SpreadAt w.heap.size w' v ds eps f := by
  obtain ⟨i0, hi0, hz0, hz1, hz2⟩ := info_parts i64_info
  obtain ⟨a, cap, rfl, hx1, hx2, hx3⟩ := hx
  unfold maxLen at hx2
  have HX := Lib.hid hx3
  have HG := Lib.hid hg
  clear hx3 hg
  obtain ⟨g, hgd⟩ : ∃ g : Nat → Int, (fun i => ds.getD i 0) = g := ⟨_, rfl⟩
  have GD : ∀ i, ds.getD i 0 = g i := fun i => by rw [← hgd]
  have HG' : Hid (∀ i, i < ds.length → -140737488355328 < g i ∧ g i < 140737488355328) := Lib.hid (fun i hi => by rw [← GD]; exact HG.out i hi)
  have GDH := Lib.hid GD
  have GFN := Lib.hid hgd
  clear HG GD hgd
  obtain ⟨n, hnn⟩ : ∃ n, ds.length = n := ⟨_, rfl⟩
  have NN := Lib.hid hnn
  rw [hnn] at hn hx1 HG' ⊢
  go_enter Try.func51, Try.ntmps51
  go_wp2_with fail
  go_loop [8, 19] (fun s i => ∃ k : Nat, k ≤ n ∧ i = .int .i64 k ∧ s = .int .i64 (sumN g k)) (fun _ i => n - (intOf i).toNat)
  case atStart => exact ⟨0, Nat.zero_le _, rfl, rfl⟩
  case round =>
    obtain ⟨k, hk, rfl, rfl⟩ := hrel
    have SB := sumN_bd (g := g) (n := k) (B := 140737488355328) (fun i hi => by have := HG'.out i (by omega); omega)
    obtain ⟨S, hS⟩ : ∃ S, sumN g k = S := ⟨_, rfl⟩
    rw [hS] at SB ⊢
    have HS := Lib.hid hS
    clear hS
    obtain ⟨s1, s2⟩ := SB
    rcases Nat.lt_or_ge k n with hlt | hge
    · obtain ⟨bx, ox, rfl, cx⟩ := HX.out (fun h => by subst h; simp at hnn; omega)
      obtain ⟨g1, g2⟩ := HG'.out k hlt
      have c1 : ∀ o : Obj, (w.alloc o).cell? ⟨bx, ox + k, none⟩ = some (.int .i64 (g k)) := fun o => Lib.cell?_alloc_some _ (by rw [← GDH.out k]; exact cx k (by omega))
      have NEW := Lib.hid (show sumN g (k + 1) = S + g k by rw [sumN, HS.out])
      clear cx
      generalize g k = x at c1 g1 g2 NEW
      clear HG' HX
      go_wp2
      go_round
      case rel => exact ⟨k + 1, by omega, by go_num, by rw [NEW.out]⟩
      case measure => simp [intOf]; omega
    · obtain rfl : k = n := by omega
      clear hk hge
      go_wp2_with fail
      go_loopw [31] (fun i wr => ∃ (j : Nat) (v : Value) (ma : Option Addr) (mk mc : Nat), j ≤ k ∧ i = .int .i64 j ∧ Blk wr w.heap.size 101 #[.slice none 0 0, .bool false, .slice none 0 0, .int .i64 0] ∧ Blk wr (w.heap.size + 1) 101 #[v, .bool false, .slice ma mk mc, .int .i64 f] ∧ wr.ownsRow (w.heap.size + 1 + 1) 2 1 v j (((List.range j).map (offN g k)).map (Value.int .i64)) ∧ NatAt wr (.slice ma mk mc) (sqN g k j) 2 ∧ (∀ r, v.ownBlock = some r → Off r (.slice ma mk mc)) ∧ Off w.heap.size (.slice ma mk mc) ∧ Off (w.heap.size + 1) (.slice ma mk mc) ∧ Ext w wr) (fun i _ => k - (intOf i).toNat)
      case atStart =>
        refine ⟨0, .slice none 0 0, none, 0, 0, Nat.zero_le _, rfl, ?_, ?_, World.ownsRow_nil _ _ _ _, NatAt.zero _ _, ?_, ?_, ?_, (by repeat (first | with_reducible exact Ext.refl _ | with_reducible apply Ext.drew | with_reducible apply Ext.drewN | with_reducible apply Ext.alloc | ((with_reducible refine Ext.setCell ?_ ?_ _); rotate_left; focus (first | (simp; done) | (simp; omega) | omega)) | with_reducible refine Ext.tr ?_ x1 | with_reducible refine Ext.tr ?_ x5 | with_reducible refine Ext.tr ?_ x6 | with_reducible refine Ext.tr ?_ x7 | with_reducible refine Ext.tr ?_ x8 | with_reducible refine Ext.tr ?_ x9 | with_reducible refine Ext.tr ?_ hx | with_reducible refine Ext.tr ?_ hext | with_reducible assumption))⟩
        · exact (Blk.new w _ _).alloc _
        · simpa using Blk.new (w.alloc _) _ _
        · intro r hr; simp [Value.ownBlock] at hr
        · intro a n c h; cases h
        · intro a n c h; cases h
      case round =>
        obtain ⟨j, v, ma, mk, mc, hj, rfl, b0, b1, hown, hm, hA, hO0, hO1, hext⟩ := hrel
        obtain ⟨wo, rfl⟩ : ∃ wo : World, wo = wr := ⟨_, rfl⟩
        have SBD := sqN_bd HG'.out hn hj
        obtain ⟨R, hR⟩ : ∃ R, sqN g k j = R := ⟨_, rfl⟩
        rw [hR] at hm SBD
        have HR := Lib.hid hR
        clear hR
        have hsz := b1.lt
        rcases Nat.lt_or_ge j k with hlt | hge
        · obtain ⟨bx, ox, rfl, cx⟩ := HX.out (fun h => by subst h; simp at hnn; omega)
          have c1 := hext.cell (cx j (by omega))
          rw [GDH.out j] at c1
          obtain ⟨P1, P2, P3⟩ := offN_bd HG'.out hn hlt
          rw [HS.out] at P2
          obtain ⟨D, hD⟩ : ∃ D, offN g k j = D := ⟨_, rfl⟩
          have eD : (k : Int) * g j - S = D := by rw [← hD, offN, HS.out]
          rw [hD] at P3
          have SQ : Hid (sqN g k (j + 1) = R + D * D) := Lib.hid (by rw [sqN_succ, HR.out, hD])
          have SB2 := sqN_bd (k := j + 1) HG'.out hn (by omega)
          rw [SQ.out] at SB2
          have SB : Hid (R + D * D < 2 ^ (64 * 2)) := Lib.hid (Int.lt_of_le_of_lt SB2.2 (by
            have : ((j + 1 : Nat) : Int) ≤ 24 := by omega
            have e : (2 : Int) ^ (64 * 2) = 340282366920938463463374607431768211456 := by decide
            rw [e]; omega))
          have RS : Hid (((List.range (j + 1)).map (offN g k)).map (Value.int .i64) = ((List.range j).map (offN g k)).map (Value.int .i64) ++ [.int .i64 D]) := Lib.hid (by rw [range_snoc, hD, List.map_append]; rfl)
          have R0 := Lib.hid SBD.1
          clear SB2 cx SBD hD
          generalize g j = x at c1 P1 eD
          obtain ⟨PX, hPX⟩ : ∃ PX, (k : Int) * x = PX := ⟨_, rfl⟩
          rw [hPX] at P1 eD
          have wa : IntKind.i64.wrap ((k : Int) * x) = PX := by rw [hPX, IntKind.wrap_i64]; omega
          have wb : IntKind.i64.wrap (PX - S) = D := by rw [IntKind.wrap_i64]; omega
          have hrow := hown.lt
          have hn2 : j + 1 ≤ maxLen := by unfold maxLen; omega
          have hn3 : (j + 1) * 8 ≤ 140737488355328 := by omega
          have HA := Lib.hid hA
          have HM := Lib.hid hm
          have HO0 := Lib.hid hO0
          have HO1 := Lib.hid hO1
          have B0 := Lib.hid b0
          have B1 := Lib.hid b1
          have k0 := (b1.cell 0).trans (show (#[v, .bool false, .slice ma mk mc, .int .i64 f] : Array Value)[0]? = some v from rfl)
          clear hA hm hO0 hO1 b0 b1 hPX eD P1 P2
          go_wp2_with (at_builtin; refine (show Hid _ from ?_).out)
          refine Lib.hid ?_
          refine wpList_append_lies _ rfl _ _ 24 rfl (w.heap.size + 1 + 1) 2 i0 _ 1 8 Try.underlying24 hi0 hz0 hz1 hz2 rfl (by decide) _ _ _ rfl (hown.alloc _) ⟨wo.heap.size, 0, none⟩ 1 1 [.int .i64 D] rfl rfl (newsC_1 _ _ _) (oneC_1 _ _) (by decide) hn2 hn3 (by simp; omega) (wo.heap.size + 1) (by simp) ?_
          intro gg cc w1 hown1 hgrow hat hlt1
          have X : Ext w w1 := Ext.grown (hext.alloc _) hgrow (fun r hr => by have := (hrow r hr).1; omega)
          have b0 := (B0.out.alloc (.cells #[.int .i64 D] 2)).grown hgrow (fun e => by have := (hrow _ e.symm).1; omega)
          have b1 := (B1.out.alloc (.cells #[.int .i64 D] 2)).grown hgrow (fun e => by have := (hrow _ e.symm).1; omega)
          have hm := (HM.out.alloc' (o := .cells #[.int .i64 D] 2)).grownOff hgrow HA.out
          have hA := Off.app HM.out HA.out hat (by omega)
          clear hgrow hat
          have k0 := (b1.cell 0).trans (show (#[v, .bool false, .slice ma mk mc, .int .i64 f] : Array Value)[0]? = some v from rfl)
          have q0 := b1.frozen 0
          go_wp2_with fail
          obtain ⟨W2, hW2⟩ : ∃ W2, w1.setCell ⟨w.heap.size + 1, 0, none⟩ (.slice (some ⟨gg, 0, none⟩) (j + 1) cc) = W2 := ⟨_, rfl⟩
          have X2 : Ext w W2 := by rw [← hW2]; exact X.setCell (by simp) _
          have b0' : Blk W2 w.heap.size 101 #[.slice none 0 0, .bool false, .slice none 0 0, .int .i64 0] := by rw [← hW2]; exact b0.far (by simp) _
          have b1' : Blk W2 (w.heap.size + 1) 101 #[.slice (some ⟨gg, 0, none⟩) (j + 1) cc, .bool false, .slice ma mk mc, .int .i64 f] := by rw [← hW2]; exact b1.set_ 0 _
          have OW2 : Hid (W2.ownsRow (w.heap.size + 1 + 1) 2 1 (.slice (some ⟨gg, 0, none⟩) (j + 1) cc) (j + 1) (((List.range (j + 1)).map (offN g k)).map (Value.int .i64))) := Lib.hid (by rw [← hW2, RS.out]; exact ownsRow_setCell_below hown1 (by simp) _)
          have M2 : Hid (NatAt W2 (.slice ma mk mc) R 2) := Lib.hid (by rw [← hW2]; exact hm.off HO1.out)
          have G2 : gg < W2.heap.size := by rw [← hW2]; simp; exact hlt1
          rw [hW2]
          clear hW2 hlt1 hown1 X hm hA b0 b1 k0 q0 B0 B1 HM HA hown hext c1 hrow hn2 hn3 wa wb RS
          have F1 := Lib.hid (fun u => wFrom_any D u (by omega) (by omega))
          have F2 := F1
          have MU := Lib.hid (fun (u : World) (a b : Value) (h : IntAt u a D 1) (k : IntAt u b D 1) => wMul_ref h k (by omega))
          have AD := Lib.hid (fun (u : World) (b : Value) h (k : IntAt u b (D * D) 2) => wAdd_nn (a1 := ma) (k1 := mk) (c1 := mc) (x := R) (w := u) h k (by omega) R0.out (sq_nn D) SB.out)
          have k0 := (b1'.cell 0).trans (show (#[.slice (some ⟨gg, 0, none⟩) (j + 1) cc, .bool false, .slice ma mk mc, .int .i64 f] : Array Value)[0]? = some _ from rfl)
          have k1 := (b1'.cell 1).trans (show (#[.slice (some ⟨gg, 0, none⟩) (j + 1) cc, .bool false, .slice ma mk mc, .int .i64 f] : Array Value)[1]? = some _ from rfl)
          have k2 := (b1'.cell 2).trans (show (#[.slice (some ⟨gg, 0, none⟩) (j + 1) cc, .bool false, .slice ma mk mc, .int .i64 f] : Array Value)[2]? = some _ from rfl)
          have q1 := b1'.frozen 1
          have q2 := b1'.frozen 2
          have hz1 := b1'.lt
          have B0 := Lib.hid b0'
          have B1 := Lib.hid b1'
          clear b0' b1'
          go_region_with (first
            | ((go_at_call 82; refine (F1.out _).mono ?_; rintro e v5 ⟨q5, rfl, x5, h5⟩; obtain ⟨c5, f5⟩ := x5.rules; have z5 := x5.size; have k5_w_heap_size___1_0 := c5 (w.heap.size + 1) 0 (by first | (simp; done) | (simp; omega) | omega); have q5_w_heap_size___1_0 := f5 (w.heap.size + 1) 0 (by first | (simp; done) | (simp; omega) | omega); have k5_w_heap_size___1_1 := c5 (w.heap.size + 1) 1 (by first | (simp; done) | (simp; omega) | omega); have q5_w_heap_size___1_1 := f5 (w.heap.size + 1) 1 (by first | (simp; done) | (simp; omega) | omega); have k5_w_heap_size___1_2 := c5 (w.heap.size + 1) 2 (by first | (simp; done) | (simp; omega) | omega); have q5_w_heap_size___1_2 := f5 (w.heap.size + 1) 2 (by first | (simp; done) | (simp; omega) | omega); have z5_w_heap_size : w.heap.size < v5.heap.size := (by (try simp at z5); omega); have z5_w_heap_size___1 : w.heap.size + 1 < v5.heap.size := (by (try simp at z5); omega); (try simp at z5); clear c5 f5; simp [go_sem, *] at k5_w_heap_size___1_0 q5_w_heap_size___1_0 k5_w_heap_size___1_1 q5_w_heap_size___1_1 k5_w_heap_size___1_2 q5_w_heap_size___1_2); have H5 := Lib.hid h5.1; clear h5 F1)
            | ((go_at_call 82; refine (F2.out _).mono ?_; rintro e v6 ⟨q6, rfl, x6, h6⟩; obtain ⟨c6, f6⟩ := x6.rules; have z6 := x6.size; have k6_w_heap_size___1_0 := c6 (w.heap.size + 1) 0 (by first | (simp; done) | (simp; omega) | omega); have q6_w_heap_size___1_0 := f6 (w.heap.size + 1) 0 (by first | (simp; done) | (simp; omega) | omega); have k6_w_heap_size___1_1 := c6 (w.heap.size + 1) 1 (by first | (simp; done) | (simp; omega) | omega); have q6_w_heap_size___1_1 := f6 (w.heap.size + 1) 1 (by first | (simp; done) | (simp; omega) | omega); have k6_w_heap_size___1_2 := c6 (w.heap.size + 1) 2 (by first | (simp; done) | (simp; omega) | omega); have q6_w_heap_size___1_2 := f6 (w.heap.size + 1) 2 (by first | (simp; done) | (simp; omega) | omega); have z6_w_heap_size : w.heap.size < v6.heap.size := (by (try simp at z6); omega); have z6_w_heap_size___1 : w.heap.size + 1 < v6.heap.size := (by (try simp at z6); omega); (try simp at z6); clear c6 f6; simp [go_sem, *] at k6_w_heap_size___1_0 q6_w_heap_size___1_0 k6_w_heap_size___1_1 q6_w_heap_size___1_1 k6_w_heap_size___1_2 q6_w_heap_size___1_2); have H6 := Lib.hid h6.1; clear h6 F2)
            | ((go_at_call 81; refine (MU.out _ _ _ (H5.out.ext (by repeat (first | with_reducible exact Ext.refl _ | with_reducible apply Ext.drew | with_reducible apply Ext.drewN | with_reducible apply Ext.alloc | ((with_reducible refine Ext.setCell ?_ ?_ _); rotate_left; focus (first | (simp; done) | (simp; omega) | omega)) | with_reducible refine Ext.tr ?_ x1 | with_reducible refine Ext.tr ?_ x5 | with_reducible refine Ext.tr ?_ x6 | with_reducible refine Ext.tr ?_ x7 | with_reducible refine Ext.tr ?_ x8 | with_reducible refine Ext.tr ?_ x9 | with_reducible refine Ext.tr ?_ hx | with_reducible refine Ext.tr ?_ hext | with_reducible assumption))) (H6.out.ext (by repeat (first | with_reducible exact Ext.refl _ | with_reducible apply Ext.drew | with_reducible apply Ext.drewN | with_reducible apply Ext.alloc | ((with_reducible refine Ext.setCell ?_ ?_ _); rotate_left; focus (first | (simp; done) | (simp; omega) | omega)) | with_reducible refine Ext.tr ?_ x1 | with_reducible refine Ext.tr ?_ x5 | with_reducible refine Ext.tr ?_ x6 | with_reducible refine Ext.tr ?_ x7 | with_reducible refine Ext.tr ?_ x8 | with_reducible refine Ext.tr ?_ x9 | with_reducible refine Ext.tr ?_ hx | with_reducible refine Ext.tr ?_ hext | with_reducible assumption)))).mono ?_; rintro e v7 ⟨q7, rfl, x7, h7⟩; obtain ⟨c7, f7⟩ := x7.rules; have z7 := x7.size; have k7_w_heap_size___1_0 := c7 (w.heap.size + 1) 0 (by first | (simp; done) | (simp; omega) | omega); have q7_w_heap_size___1_0 := f7 (w.heap.size + 1) 0 (by first | (simp; done) | (simp; omega) | omega); have k7_w_heap_size___1_1 := c7 (w.heap.size + 1) 1 (by first | (simp; done) | (simp; omega) | omega); have q7_w_heap_size___1_1 := f7 (w.heap.size + 1) 1 (by first | (simp; done) | (simp; omega) | omega); have k7_w_heap_size___1_2 := c7 (w.heap.size + 1) 2 (by first | (simp; done) | (simp; omega) | omega); have q7_w_heap_size___1_2 := f7 (w.heap.size + 1) 2 (by first | (simp; done) | (simp; omega) | omega); have z7_w_heap_size : w.heap.size < v7.heap.size := (by (try simp at z7); omega); have z7_w_heap_size___1 : w.heap.size + 1 < v7.heap.size := (by (try simp at z7); omega); (try simp at z7); clear c7 f7; simp [go_sem, *] at k7_w_heap_size___1_0 q7_w_heap_size___1_0 k7_w_heap_size___1_1 q7_w_heap_size___1_1 k7_w_heap_size___1_2 q7_w_heap_size___1_2); have H7 := Lib.hid h7.1; clear h7 H5 H6 MU)
            | (go_at_call 80; refine (AD.out _ _ (M2.out.ext (by repeat (first | with_reducible exact Ext.refl _ | with_reducible apply Ext.drew | with_reducible apply Ext.drewN | with_reducible apply Ext.alloc | ((with_reducible refine Ext.setCell ?_ ?_ _); rotate_left; focus (first | (simp; done) | (simp; omega) | omega)) | with_reducible refine Ext.tr ?_ x1 | with_reducible refine Ext.tr ?_ x5 | with_reducible refine Ext.tr ?_ x6 | with_reducible refine Ext.tr ?_ x7 | with_reducible refine Ext.tr ?_ x8 | with_reducible refine Ext.tr ?_ x9 | with_reducible refine Ext.tr ?_ hx | with_reducible refine Ext.tr ?_ hext | with_reducible assumption))) (H7.out.ext (by repeat (first | with_reducible exact Ext.refl _ | with_reducible apply Ext.drew | with_reducible apply Ext.drewN | with_reducible apply Ext.alloc | ((with_reducible refine Ext.setCell ?_ ?_ _); rotate_left; focus (first | (simp; done) | (simp; omega) | omega)) | with_reducible refine Ext.tr ?_ x1 | with_reducible refine Ext.tr ?_ x5 | with_reducible refine Ext.tr ?_ x6 | with_reducible refine Ext.tr ?_ x7 | with_reducible refine Ext.tr ?_ x8 | with_reducible refine Ext.tr ?_ x9 | with_reducible refine Ext.tr ?_ hx | with_reducible refine Ext.tr ?_ hext | with_reducible assumption)))).mono ?_; rintro e v8 ⟨a8, k8, c8, rfl, x8, h8, n8⟩; obtain ⟨c8, f8⟩ := x8.rules; have z8 := x8.size; have k8_w_heap_size___1_0 := c8 (w.heap.size + 1) 0 (by first | (simp; done) | (simp; omega) | omega); have q8_w_heap_size___1_0 := f8 (w.heap.size + 1) 0 (by first | (simp; done) | (simp; omega) | omega); have k8_w_heap_size___1_1 := c8 (w.heap.size + 1) 1 (by first | (simp; done) | (simp; omega) | omega); have q8_w_heap_size___1_1 := f8 (w.heap.size + 1) 1 (by first | (simp; done) | (simp; omega) | omega); have k8_w_heap_size___1_2 := c8 (w.heap.size + 1) 2 (by first | (simp; done) | (simp; omega) | omega); have q8_w_heap_size___1_2 := f8 (w.heap.size + 1) 2 (by first | (simp; done) | (simp; omega) | omega); have z8_w_heap_size : w.heap.size < v8.heap.size := (by (try simp at z8); omega); have z8_w_heap_size___1 : w.heap.size + 1 < v8.heap.size := (by (try simp at z8); omega); (try simp at z8); clear c8 f8; simp [go_sem, *] at k8_w_heap_size___1_0 q8_w_heap_size___1_0 k8_w_heap_size___1_1 q8_w_heap_size___1_1 k8_w_heap_size___1_2 q8_w_heap_size___1_2; have H8 := Lib.hid h8; have N8 := Lib.hid n8; clear h8 n8 H7 AD))
          all_goals
            have X8 : Ext W2 v8 := (by repeat (first | with_reducible exact Ext.refl _ | with_reducible apply Ext.drew | with_reducible apply Ext.drewN | with_reducible apply Ext.alloc | ((with_reducible refine Ext.setCell ?_ ?_ _); rotate_left; focus (first | (simp; done) | (simp; omega) | omega)) | with_reducible refine Ext.tr ?_ x1 | with_reducible refine Ext.tr ?_ x5 | with_reducible refine Ext.tr ?_ x6 | with_reducible refine Ext.tr ?_ x7 | with_reducible refine Ext.tr ?_ x8 | with_reducible refine Ext.tr ?_ x9 | with_reducible refine Ext.tr ?_ hx | with_reducible refine Ext.tr ?_ hext | with_reducible assumption))
            have HB0 := Lib.hid (((B0.out.ext X8).far (p := ⟨w.heap.size + 1, 1, none⟩) (by simp) (.bool false)).far (p := ⟨w.heap.size + 1, 2, none⟩) (by simp) (.slice a8 k8 c8))
            have HB1 := Lib.hid (((B1.out.ext X8).set_ 1 (.bool false)).set_ 2 (.slice a8 k8 c8))
            have HOW := Lib.hid (ownsRow_setCell_below (ownsRow_setCell_below (own_old OW2.out X8) (a := ⟨w.heap.size + 1, 1, none⟩) (by simp) (.bool false)) (a := ⟨w.heap.size + 1, 2, none⟩) (by simp) (.slice a8 k8 c8))
            have O1 := Lib.hid (N8.out.off (g := w.heap.size + 1) (by first | (simp; done) | (simp; omega) | omega))
            have O0 := Lib.hid (N8.out.off (g := w.heap.size) (by first | (simp; done) | (simp; omega) | omega))
            have OG := Lib.hid (N8.out.off (g := gg) (by have := x5.size; have := x6.size; have := x7.size; omega))
            have HM := Lib.hid (((H8.out).off (o := 1) (u := .bool false) O1.out).off (o := 2) (u := .slice a8 k8 c8) O1.out)
            have HX8 := Lib.hid ((X2.tr X8).setCell (p := ⟨w.heap.size + 1, 1, none⟩) (by simp) (.bool false) |>.setCell (p := ⟨w.heap.size + 1, 2, none⟩) (by simp) (.slice a8 k8 c8))
            clear B0 B1 OW2 N8 H8 X8
            go_wp2
            go_roundw
            case rel => exact ⟨j + 1, .slice (some ⟨gg, 0, none⟩) (j + 1) cc, a8, k8, c8, by omega, by go_num, HB0.out, by simpa using HB1.out, HOW.out, by rw [SQ.out]; exact HM.out, fun r hr => by simp [Value.ownBlock] at hr; subst hr; exact OG.out, O0.out, O1.out, HX8.out⟩
            case measure => simp [intOf]; omega
        · obtain rfl : j = k := by omega
          clear hge hj HX
          obtain ⟨va, vc, hv, -⟩ := Row.form' (Row.of_owns hown).1
          rw [(Row.of_owns hown).2] at hv
          subst hv
          obtain ⟨N2, hN2, n20, n21⟩ : ∃ N2, (j : Int) * j = N2 ∧ 0 ≤ N2 ∧ N2 ≤ 576 := ⟨_, rfl, Int.mul_nonneg (by omega) (by omega), Int.mul_le_mul (show (j : Int) ≤ 24 by omega) (show (j : Int) ≤ 24 by omega) (by omega) (by omega)⟩
          obtain ⟨N3, hN3, n30, n31⟩ : ∃ N3, N2 * (j : Int) = N3 ∧ 0 ≤ N3 ∧ N3 ≤ 13824 := ⟨_, rfl, Int.mul_nonneg (by omega) (by omega), Int.mul_le_mul n21 (show (j : Int) ≤ 24 by omega) (by omega) (by omega)⟩
          have wa : IntKind.i64.wrap ((j : Int) * j) = N2 := by rw [hN2, IntKind.wrap_i64]; omega
          have wb : IntKind.i64.wrap (N2 * (j : Int)) = N3 := by rw [hN3, IntKind.wrap_i64]; omega
          have e0' : 0 ≤ eps * N3 ∧ eps * N3 ≤ 140737488355328 * 13824 := ⟨Int.mul_nonneg (by omega) n30, Int.mul_le_mul (by omega) n31 n30 (by omega)⟩
          have p32 : p2 f ≤ 4294967296 := p2_bd (by omega) 32 (by omega)
          have e1' : 0 ≤ eps * N3 * p2 f ∧ eps * N3 * p2 f ≤ 140737488355328 * 13824 * 4294967296 := ⟨Int.mul_nonneg e0'.1 (Int.le_of_lt (p2_pos f)), Int.mul_le_mul e0'.2 p32 (Int.le_of_lt (p2_pos f)) (by omega)⟩
          have E0 := Lib.hid e1'.1
          have EB : Hid (eps * N3 * p2 f < 2 ^ (64 * 2)) := Lib.hid (Int.lt_of_le_of_lt e1'.2 (by decide))
          have SB : Hid (R + eps * N3 * p2 f < 2 ^ (64 * 2)) := Lib.hid (by
            have e : (2 : Int) ^ (64 * 2) = 340282366920938463463374607431768211456 := by decide
            rw [e]
            have := SBD.2
            omega)
          have R0 := Lib.hid SBD.1
          have HR2 : Hid (R + eps * N3 * p2 f = roomN g j eps f) := Lib.hid (by rw [← HR.out, ← hN3, ← hN2]; rfl)
          clear SBD HR e0' e1' p32 hN2 hN3
          have F1 := Lib.hid (fun u => wFrom_any eps u (by omega) (by omega))
          have F2 := Lib.hid (fun u => wFrom_any N3 u (by omega) (by omega))
          have MU := Lib.hid (fun (u : World) (a b : Value) (h : IntAt u a eps 1) (k : IntAt u b N3 1) => wMul_ref h k (by omega))
          have LF := Lib.hid (fun (u : World) (a : Value) (h : IntAt u a (eps * N3) 2) => wLeft_p2 (n := f) (L' := 3) h (by omega) (by omega) (by omega) (by omega))
          have AD := Lib.hid (fun (u : World) (b : Value) h (k : IntAt u b (eps * N3 * p2 f) 2) => wAdd_nn (a1 := ma) (k1 := mk) (c1 := mc) (x := R) (w := u) h k (by omega) R0.out E0.out SB.out)
          have k0 := (b1.cell 0).trans (show (#[.slice va j vc, .bool false, .slice ma mk mc, .int .i64 f] : Array Value)[0]? = some _ from rfl)
          have k1 := (b1.cell 1).trans (show (#[.slice va j vc, .bool false, .slice ma mk mc, .int .i64 f] : Array Value)[1]? = some _ from rfl)
          have k2 := (b1.cell 2).trans (show (#[.slice va j vc, .bool false, .slice ma mk mc, .int .i64 f] : Array Value)[2]? = some _ from rfl)
          have k3 := (b1.cell 3).trans (show (#[.slice va j vc, .bool false, .slice ma mk mc, .int .i64 f] : Array Value)[3]? = some _ from rfl)
          have q1 := b1.frozen 1
          have q2 := b1.frozen 2
          have j0 := (b0.cell 0).trans (show (#[.slice none 0 0, .bool false, .slice none 0 0, .int .i64 0] : Array Value)[0]? = some _ from rfl)
          have j1 := (b0.cell 1).trans (show (#[.slice none 0 0, .bool false, .slice none 0 0, .int .i64 0] : Array Value)[1]? = some _ from rfl)
          have j2 := (b0.cell 2).trans (show (#[.slice none 0 0, .bool false, .slice none 0 0, .int .i64 0] : Array Value)[2]? = some _ from rfl)
          have j3 := (b0.cell 3).trans (show (#[.slice none 0 0, .bool false, .slice none 0 0, .int .i64 0] : Array Value)[3]? = some _ from rfl)
          have r0 := b0.frozen 0
          have r1 := b0.frozen 1
          have r2 := b0.frozen 2
          have r3 := b0.frozen 3
          have hz0 := b0.lt
          have M2 := Lib.hid hm
          have OW2 := Lib.hid hown
          have HX1 := Lib.hid hext
          clear b0 b1 hm hown hA hO0 hO1 hext HG' HS
          go_wp2_with fail
          go_region_with (first
            | ((go_at_call 82; refine (F1.out _).mono ?_; rintro e v5 ⟨q5, rfl, x5, h5⟩; obtain ⟨c5, f5⟩ := x5.rules; have z5 := x5.size; have k5_w_heap_size___1_0 := c5 (w.heap.size + 1) 0 (by first | (simp; done) | (simp; omega) | omega); have q5_w_heap_size___1_0 := f5 (w.heap.size + 1) 0 (by first | (simp; done) | (simp; omega) | omega); have k5_w_heap_size___1_1 := c5 (w.heap.size + 1) 1 (by first | (simp; done) | (simp; omega) | omega); have q5_w_heap_size___1_1 := f5 (w.heap.size + 1) 1 (by first | (simp; done) | (simp; omega) | omega); have k5_w_heap_size___1_2 := c5 (w.heap.size + 1) 2 (by first | (simp; done) | (simp; omega) | omega); have q5_w_heap_size___1_2 := f5 (w.heap.size + 1) 2 (by first | (simp; done) | (simp; omega) | omega); have k5_w_heap_size___1_3 := c5 (w.heap.size + 1) 3 (by first | (simp; done) | (simp; omega) | omega); have q5_w_heap_size___1_3 := f5 (w.heap.size + 1) 3 (by first | (simp; done) | (simp; omega) | omega); have k5_w_heap_size_0 := c5 (w.heap.size) 0 (by first | (simp; done) | (simp; omega) | omega); have q5_w_heap_size_0 := f5 (w.heap.size) 0 (by first | (simp; done) | (simp; omega) | omega); have k5_w_heap_size_1 := c5 (w.heap.size) 1 (by first | (simp; done) | (simp; omega) | omega); have q5_w_heap_size_1 := f5 (w.heap.size) 1 (by first | (simp; done) | (simp; omega) | omega); have k5_w_heap_size_2 := c5 (w.heap.size) 2 (by first | (simp; done) | (simp; omega) | omega); have q5_w_heap_size_2 := f5 (w.heap.size) 2 (by first | (simp; done) | (simp; omega) | omega); have k5_w_heap_size_3 := c5 (w.heap.size) 3 (by first | (simp; done) | (simp; omega) | omega); have q5_w_heap_size_3 := f5 (w.heap.size) 3 (by first | (simp; done) | (simp; omega) | omega); have z5_w_heap_size : w.heap.size < v5.heap.size := (by (try simp at z5); omega); have z5_w_heap_size___1 : w.heap.size + 1 < v5.heap.size := (by (try simp at z5); omega); (try simp at z5); clear c5 f5; simp [go_sem, *] at k5_w_heap_size___1_0 q5_w_heap_size___1_0 k5_w_heap_size___1_1 q5_w_heap_size___1_1 k5_w_heap_size___1_2 q5_w_heap_size___1_2 k5_w_heap_size___1_3 q5_w_heap_size___1_3 k5_w_heap_size_0 q5_w_heap_size_0 k5_w_heap_size_1 q5_w_heap_size_1 k5_w_heap_size_2 q5_w_heap_size_2 k5_w_heap_size_3 q5_w_heap_size_3); have H5 := Lib.hid h5.1; clear h5 F1)
            | ((go_at_call 82; refine (F2.out _).mono ?_; rintro e v6 ⟨q6, rfl, x6, h6⟩; obtain ⟨c6, f6⟩ := x6.rules; have z6 := x6.size; have k6_w_heap_size___1_0 := c6 (w.heap.size + 1) 0 (by first | (simp; done) | (simp; omega) | omega); have q6_w_heap_size___1_0 := f6 (w.heap.size + 1) 0 (by first | (simp; done) | (simp; omega) | omega); have k6_w_heap_size___1_1 := c6 (w.heap.size + 1) 1 (by first | (simp; done) | (simp; omega) | omega); have q6_w_heap_size___1_1 := f6 (w.heap.size + 1) 1 (by first | (simp; done) | (simp; omega) | omega); have k6_w_heap_size___1_2 := c6 (w.heap.size + 1) 2 (by first | (simp; done) | (simp; omega) | omega); have q6_w_heap_size___1_2 := f6 (w.heap.size + 1) 2 (by first | (simp; done) | (simp; omega) | omega); have k6_w_heap_size___1_3 := c6 (w.heap.size + 1) 3 (by first | (simp; done) | (simp; omega) | omega); have q6_w_heap_size___1_3 := f6 (w.heap.size + 1) 3 (by first | (simp; done) | (simp; omega) | omega); have k6_w_heap_size_0 := c6 (w.heap.size) 0 (by first | (simp; done) | (simp; omega) | omega); have q6_w_heap_size_0 := f6 (w.heap.size) 0 (by first | (simp; done) | (simp; omega) | omega); have k6_w_heap_size_1 := c6 (w.heap.size) 1 (by first | (simp; done) | (simp; omega) | omega); have q6_w_heap_size_1 := f6 (w.heap.size) 1 (by first | (simp; done) | (simp; omega) | omega); have k6_w_heap_size_2 := c6 (w.heap.size) 2 (by first | (simp; done) | (simp; omega) | omega); have q6_w_heap_size_2 := f6 (w.heap.size) 2 (by first | (simp; done) | (simp; omega) | omega); have k6_w_heap_size_3 := c6 (w.heap.size) 3 (by first | (simp; done) | (simp; omega) | omega); have q6_w_heap_size_3 := f6 (w.heap.size) 3 (by first | (simp; done) | (simp; omega) | omega); have z6_w_heap_size : w.heap.size < v6.heap.size := (by (try simp at z6); omega); have z6_w_heap_size___1 : w.heap.size + 1 < v6.heap.size := (by (try simp at z6); omega); (try simp at z6); clear c6 f6; simp [go_sem, *] at k6_w_heap_size___1_0 q6_w_heap_size___1_0 k6_w_heap_size___1_1 q6_w_heap_size___1_1 k6_w_heap_size___1_2 q6_w_heap_size___1_2 k6_w_heap_size___1_3 q6_w_heap_size___1_3 k6_w_heap_size_0 q6_w_heap_size_0 k6_w_heap_size_1 q6_w_heap_size_1 k6_w_heap_size_2 q6_w_heap_size_2 k6_w_heap_size_3 q6_w_heap_size_3); have H6 := Lib.hid h6.1; clear h6 F2)
            | ((go_at_call 81; refine (MU.out _ _ _ (H5.out.ext (by repeat (first | with_reducible exact Ext.refl _ | with_reducible apply Ext.drew | with_reducible apply Ext.drewN | with_reducible apply Ext.alloc | ((with_reducible refine Ext.setCell ?_ ?_ _); rotate_left; focus (first | (simp; done) | (simp; omega) | omega)) | with_reducible refine Ext.tr ?_ x1 | with_reducible refine Ext.tr ?_ x5 | with_reducible refine Ext.tr ?_ x6 | with_reducible refine Ext.tr ?_ x7 | with_reducible refine Ext.tr ?_ x8 | with_reducible refine Ext.tr ?_ x9 | with_reducible refine Ext.tr ?_ hx | with_reducible refine Ext.tr ?_ hext | with_reducible assumption))) (H6.out.ext (by repeat (first | with_reducible exact Ext.refl _ | with_reducible apply Ext.drew | with_reducible apply Ext.drewN | with_reducible apply Ext.alloc | ((with_reducible refine Ext.setCell ?_ ?_ _); rotate_left; focus (first | (simp; done) | (simp; omega) | omega)) | with_reducible refine Ext.tr ?_ x1 | with_reducible refine Ext.tr ?_ x5 | with_reducible refine Ext.tr ?_ x6 | with_reducible refine Ext.tr ?_ x7 | with_reducible refine Ext.tr ?_ x8 | with_reducible refine Ext.tr ?_ x9 | with_reducible refine Ext.tr ?_ hx | with_reducible refine Ext.tr ?_ hext | with_reducible assumption)))).mono ?_; rintro e v7 ⟨q7, rfl, x7, h7⟩; obtain ⟨c7, f7⟩ := x7.rules; have z7 := x7.size; have k7_w_heap_size___1_0 := c7 (w.heap.size + 1) 0 (by first | (simp; done) | (simp; omega) | omega); have q7_w_heap_size___1_0 := f7 (w.heap.size + 1) 0 (by first | (simp; done) | (simp; omega) | omega); have k7_w_heap_size___1_1 := c7 (w.heap.size + 1) 1 (by first | (simp; done) | (simp; omega) | omega); have q7_w_heap_size___1_1 := f7 (w.heap.size + 1) 1 (by first | (simp; done) | (simp; omega) | omega); have k7_w_heap_size___1_2 := c7 (w.heap.size + 1) 2 (by first | (simp; done) | (simp; omega) | omega); have q7_w_heap_size___1_2 := f7 (w.heap.size + 1) 2 (by first | (simp; done) | (simp; omega) | omega); have k7_w_heap_size___1_3 := c7 (w.heap.size + 1) 3 (by first | (simp; done) | (simp; omega) | omega); have q7_w_heap_size___1_3 := f7 (w.heap.size + 1) 3 (by first | (simp; done) | (simp; omega) | omega); have k7_w_heap_size_0 := c7 (w.heap.size) 0 (by first | (simp; done) | (simp; omega) | omega); have q7_w_heap_size_0 := f7 (w.heap.size) 0 (by first | (simp; done) | (simp; omega) | omega); have k7_w_heap_size_1 := c7 (w.heap.size) 1 (by first | (simp; done) | (simp; omega) | omega); have q7_w_heap_size_1 := f7 (w.heap.size) 1 (by first | (simp; done) | (simp; omega) | omega); have k7_w_heap_size_2 := c7 (w.heap.size) 2 (by first | (simp; done) | (simp; omega) | omega); have q7_w_heap_size_2 := f7 (w.heap.size) 2 (by first | (simp; done) | (simp; omega) | omega); have k7_w_heap_size_3 := c7 (w.heap.size) 3 (by first | (simp; done) | (simp; omega) | omega); have q7_w_heap_size_3 := f7 (w.heap.size) 3 (by first | (simp; done) | (simp; omega) | omega); have z7_w_heap_size : w.heap.size < v7.heap.size := (by (try simp at z7); omega); have z7_w_heap_size___1 : w.heap.size + 1 < v7.heap.size := (by (try simp at z7); omega); (try simp at z7); clear c7 f7; simp [go_sem, *] at k7_w_heap_size___1_0 q7_w_heap_size___1_0 k7_w_heap_size___1_1 q7_w_heap_size___1_1 k7_w_heap_size___1_2 q7_w_heap_size___1_2 k7_w_heap_size___1_3 q7_w_heap_size___1_3 k7_w_heap_size_0 q7_w_heap_size_0 k7_w_heap_size_1 q7_w_heap_size_1 k7_w_heap_size_2 q7_w_heap_size_2 k7_w_heap_size_3 q7_w_heap_size_3); have H7 := Lib.hid h7.1; clear h7 H5 H6 MU)
            | ((go_at_call 83; refine (LF.out _ _ (H7.out.ext (by repeat (first | with_reducible exact Ext.refl _ | with_reducible apply Ext.drew | with_reducible apply Ext.drewN | with_reducible apply Ext.alloc | ((with_reducible refine Ext.setCell ?_ ?_ _); rotate_left; focus (first | (simp; done) | (simp; omega) | omega)) | with_reducible refine Ext.tr ?_ x1 | with_reducible refine Ext.tr ?_ x5 | with_reducible refine Ext.tr ?_ x6 | with_reducible refine Ext.tr ?_ x7 | with_reducible refine Ext.tr ?_ x8 | with_reducible refine Ext.tr ?_ x9 | with_reducible refine Ext.tr ?_ hx | with_reducible refine Ext.tr ?_ hext | with_reducible assumption)))).mono ?_; rintro e v9 ⟨q9, rfl, x9, h9⟩; obtain ⟨c9, f9⟩ := x9.rules; have z9 := x9.size; have k9_w_heap_size___1_0 := c9 (w.heap.size + 1) 0 (by first | (simp; done) | (simp; omega) | omega); have q9_w_heap_size___1_0 := f9 (w.heap.size + 1) 0 (by first | (simp; done) | (simp; omega) | omega); have k9_w_heap_size___1_1 := c9 (w.heap.size + 1) 1 (by first | (simp; done) | (simp; omega) | omega); have q9_w_heap_size___1_1 := f9 (w.heap.size + 1) 1 (by first | (simp; done) | (simp; omega) | omega); have k9_w_heap_size___1_2 := c9 (w.heap.size + 1) 2 (by first | (simp; done) | (simp; omega) | omega); have q9_w_heap_size___1_2 := f9 (w.heap.size + 1) 2 (by first | (simp; done) | (simp; omega) | omega); have k9_w_heap_size___1_3 := c9 (w.heap.size + 1) 3 (by first | (simp; done) | (simp; omega) | omega); have q9_w_heap_size___1_3 := f9 (w.heap.size + 1) 3 (by first | (simp; done) | (simp; omega) | omega); have k9_w_heap_size_0 := c9 (w.heap.size) 0 (by first | (simp; done) | (simp; omega) | omega); have q9_w_heap_size_0 := f9 (w.heap.size) 0 (by first | (simp; done) | (simp; omega) | omega); have k9_w_heap_size_1 := c9 (w.heap.size) 1 (by first | (simp; done) | (simp; omega) | omega); have q9_w_heap_size_1 := f9 (w.heap.size) 1 (by first | (simp; done) | (simp; omega) | omega); have k9_w_heap_size_2 := c9 (w.heap.size) 2 (by first | (simp; done) | (simp; omega) | omega); have q9_w_heap_size_2 := f9 (w.heap.size) 2 (by first | (simp; done) | (simp; omega) | omega); have k9_w_heap_size_3 := c9 (w.heap.size) 3 (by first | (simp; done) | (simp; omega) | omega); have q9_w_heap_size_3 := f9 (w.heap.size) 3 (by first | (simp; done) | (simp; omega) | omega); have z9_w_heap_size : w.heap.size < v9.heap.size := (by (try simp at z9); omega); have z9_w_heap_size___1 : w.heap.size + 1 < v9.heap.size := (by (try simp at z9); omega); (try simp at z9); clear c9 f9; simp [go_sem, *] at k9_w_heap_size___1_0 q9_w_heap_size___1_0 k9_w_heap_size___1_1 q9_w_heap_size___1_1 k9_w_heap_size___1_2 q9_w_heap_size___1_2 k9_w_heap_size___1_3 q9_w_heap_size___1_3 k9_w_heap_size_0 q9_w_heap_size_0 k9_w_heap_size_1 q9_w_heap_size_1 k9_w_heap_size_2 q9_w_heap_size_2 k9_w_heap_size_3 q9_w_heap_size_3); have H9 := Lib.hid (h9.1.cut E0.out EB.out); clear h9 H7 LF)
            | (go_at_call 80; refine (AD.out _ _ (M2.out.ext (by repeat (first | with_reducible exact Ext.refl _ | with_reducible apply Ext.drew | with_reducible apply Ext.drewN | with_reducible apply Ext.alloc | ((with_reducible refine Ext.setCell ?_ ?_ _); rotate_left; focus (first | (simp; done) | (simp; omega) | omega)) | with_reducible refine Ext.tr ?_ x1 | with_reducible refine Ext.tr ?_ x5 | with_reducible refine Ext.tr ?_ x6 | with_reducible refine Ext.tr ?_ x7 | with_reducible refine Ext.tr ?_ x8 | with_reducible refine Ext.tr ?_ x9 | with_reducible refine Ext.tr ?_ hx | with_reducible refine Ext.tr ?_ hext | with_reducible assumption))) (H9.out.ext (by repeat (first | with_reducible exact Ext.refl _ | with_reducible apply Ext.drew | with_reducible apply Ext.drewN | with_reducible apply Ext.alloc | ((with_reducible refine Ext.setCell ?_ ?_ _); rotate_left; focus (first | (simp; done) | (simp; omega) | omega)) | with_reducible refine Ext.tr ?_ x1 | with_reducible refine Ext.tr ?_ x5 | with_reducible refine Ext.tr ?_ x6 | with_reducible refine Ext.tr ?_ x7 | with_reducible refine Ext.tr ?_ x8 | with_reducible refine Ext.tr ?_ x9 | with_reducible refine Ext.tr ?_ hx | with_reducible refine Ext.tr ?_ hext | with_reducible assumption)))).mono ?_; rintro e v8 ⟨a8, k8, c8, rfl, x8, h8, n8⟩; obtain ⟨c8, f8⟩ := x8.rules; have z8 := x8.size; have k8_w_heap_size___1_0 := c8 (w.heap.size + 1) 0 (by first | (simp; done) | (simp; omega) | omega); have q8_w_heap_size___1_0 := f8 (w.heap.size + 1) 0 (by first | (simp; done) | (simp; omega) | omega); have k8_w_heap_size___1_1 := c8 (w.heap.size + 1) 1 (by first | (simp; done) | (simp; omega) | omega); have q8_w_heap_size___1_1 := f8 (w.heap.size + 1) 1 (by first | (simp; done) | (simp; omega) | omega); have k8_w_heap_size___1_2 := c8 (w.heap.size + 1) 2 (by first | (simp; done) | (simp; omega) | omega); have q8_w_heap_size___1_2 := f8 (w.heap.size + 1) 2 (by first | (simp; done) | (simp; omega) | omega); have k8_w_heap_size___1_3 := c8 (w.heap.size + 1) 3 (by first | (simp; done) | (simp; omega) | omega); have q8_w_heap_size___1_3 := f8 (w.heap.size + 1) 3 (by first | (simp; done) | (simp; omega) | omega); have k8_w_heap_size_0 := c8 (w.heap.size) 0 (by first | (simp; done) | (simp; omega) | omega); have q8_w_heap_size_0 := f8 (w.heap.size) 0 (by first | (simp; done) | (simp; omega) | omega); have k8_w_heap_size_1 := c8 (w.heap.size) 1 (by first | (simp; done) | (simp; omega) | omega); have q8_w_heap_size_1 := f8 (w.heap.size) 1 (by first | (simp; done) | (simp; omega) | omega); have k8_w_heap_size_2 := c8 (w.heap.size) 2 (by first | (simp; done) | (simp; omega) | omega); have q8_w_heap_size_2 := f8 (w.heap.size) 2 (by first | (simp; done) | (simp; omega) | omega); have k8_w_heap_size_3 := c8 (w.heap.size) 3 (by first | (simp; done) | (simp; omega) | omega); have q8_w_heap_size_3 := f8 (w.heap.size) 3 (by first | (simp; done) | (simp; omega) | omega); have z8_w_heap_size : w.heap.size < v8.heap.size := (by (try simp at z8); omega); have z8_w_heap_size___1 : w.heap.size + 1 < v8.heap.size := (by (try simp at z8); omega); (try simp at z8); clear c8 f8; simp [go_sem, *] at k8_w_heap_size___1_0 q8_w_heap_size___1_0 k8_w_heap_size___1_1 q8_w_heap_size___1_1 k8_w_heap_size___1_2 q8_w_heap_size___1_2 k8_w_heap_size___1_3 q8_w_heap_size___1_3 k8_w_heap_size_0 q8_w_heap_size_0 k8_w_heap_size_1 q8_w_heap_size_1 k8_w_heap_size_2 q8_w_heap_size_2 k8_w_heap_size_3 q8_w_heap_size_3; have H8 := Lib.hid h8; have N8 := Lib.hid n8; clear h8 n8 H9 AD))
          all_goals
            have X8 : Ext wo v8 := (by repeat (first | with_reducible exact Ext.refl _ | with_reducible apply Ext.drew | with_reducible apply Ext.drewN | with_reducible apply Ext.alloc | ((with_reducible refine Ext.setCell ?_ ?_ _); rotate_left; focus (first | (simp; done) | (simp; omega) | omega)) | with_reducible refine Ext.tr ?_ x1 | with_reducible refine Ext.tr ?_ x5 | with_reducible refine Ext.tr ?_ x6 | with_reducible refine Ext.tr ?_ x7 | with_reducible refine Ext.tr ?_ x8 | with_reducible refine Ext.tr ?_ x9 | with_reducible refine Ext.tr ?_ hx | with_reducible refine Ext.tr ?_ hext | with_reducible assumption))
            have O1 := Lib.hid (N8.out.off (g := w.heap.size + 1) (by first | (simp; done) | (simp; omega) | omega))
            have O0 := Lib.hid (N8.out.off (g := w.heap.size) (by first | (simp; done) | (simp; omega) | omega))
            go_wp2
            simp [bodyPost, results, Try.results51, go_sem, *]
            have eo : offL ds = (List.range j).map (offN g j) := by unfold offL; rw [GFN.out, NN.out]
            have OW := own_old OW2.out X8
            refine ⟨?_, ⟨⟨va, vc, a8, k8, c8, by rw [NN.out], ?_, ?_, ?_, ?_⟩⟩⟩
            · exact ((((((HX1.out.tr X8).setCell (by simp) _).setCell (by simp) _).setCell (by simp) _).setCell (by simp) _).setCell (by simp) _).setCell (by simp) _
            · rw [NN.out, eo]
              exact (Row.of_owns (ownsRow_setCell_below (ownsRow_setCell_below (ownsRow_setCell_below (ownsRow_setCell_below (ownsRow_setCell_below (ownsRow_setCell_below OW (by simp) _) (by simp) _) (by simp; omega) _) (by simp; omega) _) (by simp; omega) _) (by simp; omega) _)).1
            · rw [NN.out, GFN.out, ← HR2.out]
              exact ((((((H8.out.off O1.out).off O1.out).off O0.out).off O0.out).off O0.out).off O0.out)
            · rw [NN.out]
              intro b hb
              have := (OW.lt b hb).1
              omega
            · exact N8.out.old (w := w) (by first | (simp; done) | (simp; omega) | omega)
end Go.Proofs.Ytjmecongccjcgaa
