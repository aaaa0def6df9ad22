/- conv.Over: how many places a window has along each dimension. (*infer.step).image. Parameters, as a world holds them; (*infer.step).param. -/
import Derived.Test.YtgokenbojppnhaaDoorInfSmall
import Derived.Test.YtgokenbojppnhaaDoorDefPrint
import Derived.Deep.RegionLaw
import Derived.Deep.AppendLies
namespace Go.Proofs.YtgokenbojppnhaaDoor
open Go.RowKit
attribute [local go_sem ↓] Go.wp_at_zero Go.wp_at_succ
theorem places_no {Z T P : Int} {ls : List Int} {k : Nat} (hk : k < ls.length) (h : roomS Z P (ls.getD k 0) < 0) : placesS Z T P ls = none := by
  unfold placesS
  rw [if_neg]
  intro h2
  rw [List.all_eq_true] at h2
  have h3 := of_decide_eq_true (h2 _ (getD_mem ls k hk))
  omega
theorem places_yes {Z T P : Int} {ls : List Int} (h : ∀ j, j < ls.length → 0 ≤ roomS Z P (ls.getD j 0)) : placesS Z T P ls = some (ls.map fun l => roomS Z P l / T + 1) := by
  unfold placesS
  rw [if_pos]
  rw [List.all_eq_true]
  intro x hx
  obtain ⟨j, hj, rfl⟩ := List.getElem_of_mem hx
  have := h j hj
  rw [List.getD_eq_getElem?_getD, List.getElem?_eq_getElem hj] at this
  simpa using this
theorem row_cell {k : IntKind} {w : World} {a : Option Addr} {n c : Nat} {xs : List Int} (h : Row k w (.slice a n c) xs) {i : Nat} (hi : i < n) : ∃ b o, a = some ⟨b, o, none⟩ ∧ w.cell? ⟨b, o + i, none⟩ = some (.int k (xs.getD i 0)) := by
  obtain ⟨a', c', e, h1, h2, h3⟩ := h
  cases e
  obtain ⟨b, o, e, hc⟩ := h3 (by intro e; subst e; simp at hi)
  exact ⟨b, o, e, hc i hi⟩
theorem rep_getD {n i : Nat} (x : Int) (h : i < n) : (List.replicate n x).getD i 0 = x := by
  rw [List.getD_eq_getElem?_getD, List.getElem?_replicate, if_pos h]; rfl
theorem rowG_cell {w : World} {g n i : Nat} {x : Int} (h : Row .i64 w (rowG g n) (List.replicate n x)) (hi : i < n) : w.cell? ⟨g, i, none⟩ = some (.int .i64 x) := by
  obtain ⟨b, o, e, hc⟩ := row_cell h hi
  cases e
  rw [Nat.zero_add, rep_getD x hi] at hc
  exact hc
theorem row_off {k : IntKind} {w : World} {v u : Value} {b o : Nat} {xs : List Int} (h : Row k w v xs) (hne : ∀ p, v.ownBlock = some p → p ≠ b) : Row k (w.setCell ⟨b, o, none⟩ u) v xs := by
  obtain ⟨a, c', rfl, h1, h2, h3⟩ := h
  refine ⟨a, c', rfl, h1, h2, fun hn => ?_⟩
  obtain ⟨b', o', rfl, hc⟩ := h3 hn
  refine ⟨b', o', rfl, fun i hi => ?_⟩
  rw [cell_set_far _ _ _ _ _ _ (fun e => hne b' rfl e.symm)]
  exact hc i hi
/-- The places so far. -/
def plcS (Z T P : Int) (ls : List Int) : List Int := ls.map fun l => roomS Z P l / T + 1
theorem plc_take (Z T P : Int) (ls : List Int) (k : Nat) (h : k < ls.length) : plcS Z T P (ls.take (k + 1)) = plcS Z T P (ls.take k) ++ [roomS Z P (ls.getD k 0) / T + 1] := by
  rw [take_succ_getD ls k h]; simp [plcS]
set_option maxHeartbeats 2000000 in
set_option maxRecDepth 100000 in
theorem over_any {ls : List Int} {a : Option Addr} {c gk gs gp gd : Nat} {Z T P : Int} {w : World} (hi : Row .i64 w (.slice a ls.length c) ls) (hk : Row .i64 w (rowG gk ls.length) (List.replicate ls.length Z)) (hs : Row .i64 w (rowG gs ls.length) (List.replicate ls.length T))
    (hp : Row .i64 w (rowG gp ls.length) (List.replicate ls.length P)) (hd : Row .i64 w (rowG gd ls.length) (List.replicate ls.length 1)) (hl : ls.length ≤ 4) (hb : ∀ l ∈ ls, 1 ≤ l ∧ l ≤ 4096) (z0 : 1 ≤ Z) (z1 : Z ≤ 4096) (t0 : 1 ≤ T) (t1 : T ≤ 4096) (p0 : 0 ≤ P) (p1 : P ≤ 4096) :
    Calls Tryd.prog 91 #[.slice a ls.length c, rowG gk ls.length, .agg #[.slice none 0 0, rowG gs ls.length, rowG gp ls.length, rowG gd ls.length]] w fun e w' =>
      (placesS Z T P ls = none ∧ e = .returned (.tuple #[.agg #[.slice none 0 0, .slice none 0 0, .slice none 0 0, .slice none 0 0, .slice none 0 0, .slice none 0 0, .slice none 0 0], .bool false]) ∧ Ext w w') ∨
      (∃ p oa oc, placesS Z T P ls = some p ∧ e = .returned (.tuple #[.agg #[.slice a ls.length c, rowG gk ls.length, .slice oa p.length oc, .slice none 0 0, rowG gs ls.length, rowG gp ls.length, rowG gd ls.length], .bool true]) ∧ Ext w w' ∧ Row .i64 w' (.slice oa p.length oc) p ∧ New w (.slice oa p.length oc)) := by
  obtain ⟨i0, hi0, hz0, hz1, hz2⟩ := info_parts cloneI_info
  have HI := Lib.hid hi
  have HK := Lib.hid hk
  have HS := Lib.hid hs
  have HP := Lib.hid hp
  have HD := Lib.hid hd
  have HB := Lib.hid hb
  obtain ⟨n, hn⟩ : ∃ n, ls.length = n := ⟨_, rfl⟩
  rw [hn] at HI HK HS HP HD hl ⊢
  have HN := Lib.hid hn
  clear hi hk hs hp hd hb hn
  go_enter Tryd.func91, Tryd.ntmps91
  go_wp2_with fail
  go_loopw [17] (fun i wr => ∃ (k : Nat) (oa : Option Addr) (oc : Nat), k ≤ n ∧ i = .int .i64 k ∧ Blk wr w.heap.size 101 #[.slice none 0 0, rowG gs n, rowG gp n, rowG gd n] ∧ Blk wr (w.heap.size + 1) 138 #[.slice a n c, rowG gk n, .slice oa k oc, .slice none 0 0, rowG gs n, rowG gp n, rowG gd n] ∧ wr.ownsRow (w.heap.size + 2) 3 1 (.slice oa k oc) k ((plcS Z T P (ls.take k)).map (Value.int .i64)) ∧ Ext w wr ∧ ∀ j, j < k → 0 ≤ roomS Z P (ls.getD j 0)) (fun i _ => n - (intOf i).toNat)
  case atStart => exact ⟨0, none, 0, Nat.zero_le _, rfl, (Blk.new w _ _).alloc _, by simpa using Blk.new (w.alloc _) 138 #[.slice a n c, rowG gk n, .slice none 0 0, .slice none 0 0, rowG gs n, rowG gp n, rowG gd n], World.ownsRow_nil _ _ _ _, (by repeat (first | with_reducible exact Ext.refl _ | with_reducible apply Ext.drew | with_reducible apply Ext.drewN | with_reducible apply Ext.alloc | ((with_reducible refine Ext.setCell ?_ ?_ _); rotate_left; focus (first | (simp; done) | (simp; omega) | omega)) | with_reducible refine Ext.tr ?_ x1 | with_reducible refine Ext.tr ?_ x2 | with_reducible refine Ext.tr ?_ hx | with_reducible refine Ext.tr ?_ hext | with_reducible assumption)), fun j hj => by omega⟩
  case round =>
    obtain ⟨k, oa, oc, hkn, rfl, bc, bw, hown, hext, hrm⟩ := hrel
    rcases Nat.lt_or_ge k n with hlt | hge
    · obtain ⟨b, o, rfl, ci⟩ := row_cell (HI.out.ext hext) hlt
      have ck := rowG_cell (HK.out.ext hext) hlt
      have cs := rowG_cell (HS.out.ext hext) hlt
      have cp := rowG_cell (HP.out.ext hext) hlt
      have cd := rowG_cell (HD.out.ext hext) hlt
      have f1 := (bc.cell 1).trans (show (#[.slice none 0 0, rowG gs n, rowG gp n, rowG gd n] : Array Value)[1]? = some (rowG gs n) from rfl)
      have f2 := (bc.cell 2).trans (show (#[.slice none 0 0, rowG gs n, rowG gp n, rowG gd n] : Array Value)[2]? = some (rowG gp n) from rfl)
      have f3 := (bc.cell 3).trans (show (#[.slice none 0 0, rowG gs n, rowG gp n, rowG gd n] : Array Value)[3]? = some (rowG gd n) from rfl)
      obtain ⟨l, hll⟩ : ∃ l, ls.getD k 0 = l := ⟨_, rfl⟩
      obtain ⟨l0, l1⟩ := HB.out l (by rw [← hll]; exact getD_mem ls k (by rw [HN.out]; exact hlt))
      rw [hll] at ci
      obtain ⟨R, hR⟩ : ∃ R, l + 2 * P - (Z - 1) - 1 = R := ⟨_, rfl⟩
      have w1 : IntKind.i64.wrap (2 * P) = 2 * P := by rw [IntKind.wrap_i64]; omega
      have w2 : IntKind.i64.wrap (l + 2 * P) = l + 2 * P := by rw [IntKind.wrap_i64]; omega
      have w3 : IntKind.i64.wrap (Z - 1) = Z - 1 := by rw [IntKind.wrap_i64]; omega
      have w4 : IntKind.i64.wrap (l + 2 * P - (Z - 1)) = l + 2 * P - (Z - 1) := by rw [IntKind.wrap_i64]; omega
      have w5 : IntKind.i64.wrap (l + 2 * P - (Z - 1) - 1) = R := by rw [IntKind.wrap_i64]; omega
      have RB1 : R ≤ 12288 := by omega
      have RB2 : -4096 ≤ R := by omega
      have LL := Lib.hid hll
      have HR := Lib.hid hR
      have BC := Lib.hid bc
      have BW := Lib.hid bw
      have OW := Lib.hid hown
      have HX := Lib.hid hext
      have RM := Lib.hid hrm
      have k0 : (0 : Int) ≤ (k : Int) := by omega
      have k1 : (k : Int) < (n : Int) := by omega
      clear hll hR bc bw hown hext hrm
      have RE : Hid (roomS Z P (ls.getD k 0) = R) := Lib.hid (by rw [LL.out, ← HR.out]; rfl)
      by_cases hneg : R < 0
      · have tn : decide (R < 0) = true := by simpa using hneg
        have NO : Hid (placesS Z T P ls = none) := Lib.hid (places_no (by rw [HN.out]; exact hlt) (by rw [RE.out]; exact hneg))
        have bw := BW.out
        have g0 := (bw.cell 0).trans (show (#[.slice (some ⟨b, o, none⟩) n c, rowG gk n, .slice oa k oc, .slice none 0 0, rowG gs n, rowG gp n, rowG gd n] : Array Value)[0]? = some (.slice (some ⟨b, o, none⟩) n c) from rfl)
        have gz0 := bw.frozen 0
        have g1 := (bw.cell 1).trans (show (#[.slice (some ⟨b, o, none⟩) n c, rowG gk n, .slice oa k oc, .slice none 0 0, rowG gs n, rowG gp n, rowG gd n] : Array Value)[1]? = some (rowG gk n) from rfl)
        have gz1 := bw.frozen 1
        have g2 := (bw.cell 2).trans (show (#[.slice (some ⟨b, o, none⟩) n c, rowG gk n, .slice oa k oc, .slice none 0 0, rowG gs n, rowG gp n, rowG gd n] : Array Value)[2]? = some (.slice oa k oc) from rfl)
        have gz2 := bw.frozen 2
        have g3 := (bw.cell 3).trans (show (#[.slice (some ⟨b, o, none⟩) n c, rowG gk n, .slice oa k oc, .slice none 0 0, rowG gs n, rowG gp n, rowG gd n] : Array Value)[3]? = some (.slice none 0 0) from rfl)
        have gz3 := bw.frozen 3
        have g4 := (bw.cell 4).trans (show (#[.slice (some ⟨b, o, none⟩) n c, rowG gk n, .slice oa k oc, .slice none 0 0, rowG gs n, rowG gp n, rowG gd n] : Array Value)[4]? = some (rowG gs n) from rfl)
        have gz4 := bw.frozen 4
        have g5 := (bw.cell 5).trans (show (#[.slice (some ⟨b, o, none⟩) n c, rowG gk n, .slice oa k oc, .slice none 0 0, rowG gs n, rowG gp n, rowG gd n] : Array Value)[5]? = some (rowG gp n) from rfl)
        have gz5 := bw.frozen 5
        have g6 := (bw.cell 6).trans (show (#[.slice (some ⟨b, o, none⟩) n c, rowG gk n, .slice oa k oc, .slice none 0 0, rowG gs n, rowG gp n, rowG gd n] : Array Value)[6]? = some (rowG gd n) from rfl)
        have gz6 := bw.frozen 6
        clear bw OW hneg
        go_wp2_with fail
        go_quiet (fail)
        go_wp2
        refine bodyPost_ret (v := .tuple #[.agg #[.slice none 0 0, .slice none 0 0, .slice none 0 0, .slice none 0 0, .slice none 0 0, .slice none 0 0, .slice none 0 0], .bool false]) (by simp [results, Tryd.results91, go_sem, *]) rfl (.inl ⟨NO.out, rfl, ?_⟩)
        have hext := HX.out
        exact (by repeat (first | with_reducible exact Ext.refl _ | with_reducible apply Ext.drew | with_reducible apply Ext.drewN | with_reducible apply Ext.alloc | ((with_reducible refine Ext.setCell ?_ ?_ _); rotate_left; focus (first | (simp; done) | (simp; omega) | omega)) | with_reducible refine Ext.tr ?_ x1 | with_reducible refine Ext.tr ?_ x2 | with_reducible refine Ext.tr ?_ hx | with_reducible refine Ext.tr ?_ hext | with_reducible assumption))
      · have tn : decide (R < 0) = false := by simpa using hneg
        have bw := BW.out
        have g2 := (bw.cell 2).trans (show (#[.slice (some ⟨b, o, none⟩) n c, rowG gk n, .slice oa k oc, .slice none 0 0, rowG gs n, rowG gp n, rowG gd n] : Array Value)[2]? = some (.slice oa k oc) from rfl)
        have gz2 := bw.frozen 2
        obtain ⟨q, hq⟩ : ∃ q, R / T = q := ⟨_, rfl⟩
        have hqd : R.tdiv T = q := by rw [← hq, Int.tdiv_eq_ediv_of_nonneg (by omega)]
        have q0 : 0 ≤ q := by rw [← hq]; exact Int.ediv_nonneg (by omega) (by omega)
        have q1 : q ≤ 12288 := by rw [← hq]; exact Int.le_trans (Int.ediv_le_self _ (by omega)) RB1
        have w6 : IntKind.i64.wrap (q + 1) = q + 1 := by rw [IntKind.wrap_i64]; omega
        have PL : Hid (plcS Z T P (ls.take (k + 1)) = plcS Z T P (ls.take k) ++ [q + 1]) := Lib.hid (by rw [plc_take Z T P ls k (by rw [HN.out]; exact hlt), RE.out, hq])
        have NEWR : Hid (∀ j, j < k + 1 → 0 ≤ roomS Z P (ls.getD j 0)) := Lib.hid (fun j hj => by
          rcases Nat.lt_succ_iff_lt_or_eq.1 hj with h | rfl
          · exact RM.out j h
          · rw [RE.out]; omega)
        have hT0 : ¬ T = 0 := by omega
        have w7 : IntKind.i64.wrap q = q := by rw [IntKind.wrap_i64]; omega
        have HQ := Lib.hid hq
        have hrow := OW.out.lt
        clear bw hq RM hneg
        go_wp2_with fail
        go_quiet (fail)
        rename_i nq
        go_wp2_with fail
        obtain ⟨V, hV⟩ : ∃ V, wr.drewN nq = V := ⟨_, rfl⟩
        have xV : Ext wr V := by rw [← hV]; exact (Ext.refl wr).drewN _
        rw [hV]
        have zV := xV.size
        have v1 := xV.cell f1
        have v2 := xV.cell g2
        have v3 := xV.cell cs
        have BV := Lib.hid (BW.out.ext xV)
        have CV := Lib.hid (BC.out.ext xV)
        have OV := Lib.hid (own_old OW.out xV)
        have ZV := Lib.hid (HX.out.tr xV)
        have zb := BV.out.lt
        have zc := CV.out.lt
        clear f1 f2 f3 g2 gz2 ci ck cs cp cd hV xV BW BC OW HX
        go_region_law (refine step_append_lies _ rfl (.tmp 47) (.tmp 56) 24 rfl (w.heap.size + 2) 3 i0 (.int .i64 0) 1 8 Tryd.underlying24 hi0 hz0 hz1 hz2 rfl (by decide) (.slice oa k oc) k ((plcS Z T P (ls.take k)).map (Value.int .i64)) (by simp [Act.eval]) ((OV.out.alloc _).drew) ⟨V.heap.size, 0, none⟩ 1 1 [.int .i64 (q + 1)] (by simp [Act.eval]) rfl (World.news_of_block (cs := #[.int .i64 (q + 1)]) (t := 3) (fr := (0, 0)) (heap_alloc_new V _)) (by simp [Value.oneCell']) (by decide) (by unfold maxLen; omega) (by omega) (by simp; omega) (V.heap.size + 1) (by simp) ?_; intro gg cc w1 hown1 hgrow hat hlt1; have t1' := ((BV.out.alloc (.cells #[.int .i64 (q + 1)] 3)).drew).grown hgrow (fun e => by have := (hrow _ e.symm).1; omega); have k1' := (t1'.cell 2).trans (show (#[.slice (some ⟨b, o, none⟩) n c, rowG gk n, .slice oa k oc, .slice none 0 0, rowG gs n, rowG gp n, rowG gd n] : Array Value)[2]? = some (.slice oa k oc) from rfl); have f1' := t1'.frozen 2)
        all_goals
          have X1 : Ext w w1 := Ext.grown ((ZV.out.alloc (.cells #[.int .i64 (q + 1)] 3)).drew) hgrow (fun r hr => by have := (hrow r hr).1; omega)
          have c1' := ((CV.out.alloc (.cells #[.int .i64 (q + 1)] 3)).drew).grown hgrow (fun e => by have := (hrow _ e.symm).1; omega)
          have OWN : Hid (w1.ownsRow (w.heap.size + 2) 3 1 (.slice (some ⟨gg, 0, none⟩) (k + 1) cc) (k + 1) ((plcS Z T P (ls.take (k + 1))).map (Value.int .i64))) := Lib.hid (by rw [PL.out, List.map_append]; exact hown1)
          have T1 := Lib.hid t1'
          have C1 := Lib.hid c1'
          clear hown1 hgrow hat t1' c1' k1' f1'
          go_wp2
          go_roundw
          case rel => exact ⟨k + 1, some ⟨gg, 0, none⟩, cc, by omega, by go_num, C1.out.far (by simp) _, T1.out.set_ 2 _, ownsRow_setCell_below OWN.out (by simp) _, X1.setCell (by simp) _, NEWR.out⟩
          case measure => simp [intOf]; omega
    · obtain rfl : k = n := by omega
      have YES : Hid (placesS Z T P ls = some (plcS Z T P ls)) := Lib.hid (places_yes (fun j hj => hrm j (by rw [← HN.out]; exact hj)))
      rw [List.take_of_length_le (by rw [HN.out]; exact Nat.le_refl _)] at hown
      have LE : (plcS Z T P ls).length = k := by simp [plcS, HN.out]
      have OW := Lib.hid hown
      have HX := Lib.hid hext
      have bw0 := bw
      have g0 := (bw0.cell 0).trans (show (#[.slice a k c, rowG gk k, .slice oa k oc, .slice none 0 0, rowG gs k, rowG gp k, rowG gd k] : Array Value)[0]? = some (.slice a k c) from rfl)
      have gz0 := bw0.frozen 0
      have g1 := (bw0.cell 1).trans (show (#[.slice a k c, rowG gk k, .slice oa k oc, .slice none 0 0, rowG gs k, rowG gp k, rowG gd k] : Array Value)[1]? = some (rowG gk k) from rfl)
      have gz1 := bw0.frozen 1
      have g2 := (bw0.cell 2).trans (show (#[.slice a k c, rowG gk k, .slice oa k oc, .slice none 0 0, rowG gs k, rowG gp k, rowG gd k] : Array Value)[2]? = some (.slice oa k oc) from rfl)
      have gz2 := bw0.frozen 2
      have g3 := (bw0.cell 3).trans (show (#[.slice a k c, rowG gk k, .slice oa k oc, .slice none 0 0, rowG gs k, rowG gp k, rowG gd k] : Array Value)[3]? = some (.slice none 0 0) from rfl)
      have gz3 := bw0.frozen 3
      have g4 := (bw0.cell 4).trans (show (#[.slice a k c, rowG gk k, .slice oa k oc, .slice none 0 0, rowG gs k, rowG gp k, rowG gd k] : Array Value)[4]? = some (rowG gs k) from rfl)
      have gz4 := bw0.frozen 4
      have g5 := (bw0.cell 5).trans (show (#[.slice a k c, rowG gk k, .slice oa k oc, .slice none 0 0, rowG gs k, rowG gp k, rowG gd k] : Array Value)[5]? = some (rowG gp k) from rfl)
      have gz5 := bw0.frozen 5
      have g6 := (bw0.cell 6).trans (show (#[.slice a k c, rowG gk k, .slice oa k oc, .slice none 0 0, rowG gs k, rowG gp k, rowG gd k] : Array Value)[6]? = some (rowG gd k) from rfl)
      have gz6 := bw0.frozen 6
      have LE' := Lib.hid LE
      clear hown bw bw0 bc hext hrm LE
      go_wp2
      refine bodyPost_ret (v := .tuple #[.agg #[.slice a k c, rowG gk k, .slice oa k oc, .slice none 0 0, rowG gs k, rowG gp k, rowG gd k], .bool true]) (by simp [results, Tryd.results91, go_sem, *]) rfl (.inr ⟨_, oa, oc, YES.out, by rw [LE'.out], ?_, ?_, ?_⟩)
      · have hext := HX.out
        exact (by repeat (first | with_reducible exact Ext.refl _ | with_reducible apply Ext.drew | with_reducible apply Ext.drewN | with_reducible apply Ext.alloc | ((with_reducible refine Ext.setCell ?_ ?_ _); rotate_left; focus (first | (simp; done) | (simp; omega) | omega)) | with_reducible refine Ext.tr ?_ x1 | with_reducible refine Ext.tr ?_ x2 | with_reducible refine Ext.tr ?_ hx | with_reducible refine Ext.tr ?_ hext | with_reducible assumption))
      · rw [LE'.out]
        refine (Row.of_owns (base := w.heap.size + 2) (e := 3) (n := k) (xs := plcS Z T P ls) ?_).1
        iterate 7 with_reducible refine ownsRow_setCell_below ?_ (by simp) _
        exact OW.out
      · rw [LE'.out]
        exact fun p hp => by have := (OW.out.lt p hp).1; omega
theorem over_no {ls : List Int} {a : Option Addr} {c gk gs gp gd : Nat} {Z T P : Int} {w : World} (hi : Row .i64 w (.slice a ls.length c) ls) (hk : Row .i64 w (rowG gk ls.length) (List.replicate ls.length Z)) (hs : Row .i64 w (rowG gs ls.length) (List.replicate ls.length T))
    (hp : Row .i64 w (rowG gp ls.length) (List.replicate ls.length P)) (hd : Row .i64 w (rowG gd ls.length) (List.replicate ls.length 1)) (hl : ls.length ≤ 4) (hb : ∀ l ∈ ls, 1 ≤ l ∧ l ≤ 4096) (z0 : 1 ≤ Z) (z1 : Z ≤ 4096) (t0 : 1 ≤ T) (t1 : T ≤ 4096) (p0 : 0 ≤ P) (p1 : P ≤ 4096) (hn : placesS Z T P ls = none) :
    Calls Tryd.prog 91 #[.slice a ls.length c, rowG gk ls.length, .agg #[.slice none 0 0, rowG gs ls.length, rowG gp ls.length, rowG gd ls.length]] w fun e w' => e = .returned (.tuple #[.agg #[.slice none 0 0, .slice none 0 0, .slice none 0 0, .slice none 0 0, .slice none 0 0, .slice none 0 0, .slice none 0 0], .bool false]) ∧ Ext w w' := by
  refine (over_any hi hk hs hp hd hl hb z0 z1 t0 t1 p0 p1).mono ?_
  rintro e w' (⟨-, h1, h2⟩ | ⟨p, oa, oc, h, -⟩)
  · exact ⟨h1, h2⟩
  · rw [hn] at h; cases h
theorem over_yes {ls : List Int} {a : Option Addr} {c gk gs gp gd : Nat} {Z T P : Int} {w : World} (hi : Row .i64 w (.slice a ls.length c) ls) (hk : Row .i64 w (rowG gk ls.length) (List.replicate ls.length Z)) (hs : Row .i64 w (rowG gs ls.length) (List.replicate ls.length T))
    (hp : Row .i64 w (rowG gp ls.length) (List.replicate ls.length P)) (hd : Row .i64 w (rowG gd ls.length) (List.replicate ls.length 1)) (hl : ls.length ≤ 4) (hb : ∀ l ∈ ls, 1 ≤ l ∧ l ≤ 4096) (z0 : 1 ≤ Z) (z1 : Z ≤ 4096) (t0 : 1 ≤ T) (t1 : T ≤ 4096) (p0 : 0 ≤ P) (p1 : P ≤ 4096) {p : List Int} (hn : placesS Z T P ls = some p) :
    Calls Tryd.prog 91 #[.slice a ls.length c, rowG gk ls.length, .agg #[.slice none 0 0, rowG gs ls.length, rowG gp ls.length, rowG gd ls.length]] w fun e w' => ∃ oa oc, e = .returned (.tuple #[.agg #[.slice a ls.length c, rowG gk ls.length, .slice oa p.length oc, .slice none 0 0, rowG gs ls.length, rowG gp ls.length, rowG gd ls.length], .bool true]) ∧ Ext w w' ∧ Row .i64 w' (.slice oa p.length oc) p ∧ New w (.slice oa p.length oc) := by
  refine (over_any hi hk hs hp hd hl hb z0 z1 t0 t1 p0 p1).mono ?_
  rintro e w' (⟨h, -⟩ | ⟨q, oa, oc, h, h1, h2, h3⟩)
  · rw [hn] at h; cases h
  · rw [hn] at h
    cases h
    exact ⟨oa, oc, h1, h2, h3⟩
end Go.Proofs.YtgokenbojppnhaaDoor
namespace Go.Proofs.YtgokenbojppnhaaDoor
open Go.RowKit
attribute [local go_sem ↓] Go.wp_at_zero Go.wp_at_succ
/-- The cells of a step. -/
def stepA (f : LayF) (bv iv ov pv : Value) (first : Bool) (nm : ByteArray) (bad : Int) (fin : Bool) : Array Value :=
  #[.int .i64 f.kind, .int .i64 f.inn, .int .i64 f.out, .int .i64 f.size, .int .i64 f.stride, .int .i64 f.pad, .int .i64 f.percent, .int .i64 f.heads, bv, iv, ov, pv, .bool first, .string nm, .int .i64 bad, .bool fin]
/-- What a layer's numbers may be, for shapes. -/
structure WinOk (f : LayF) : Prop where
  z0 : 1 ≤ f.size
  z1 : f.size ≤ 4096
  t0 : 1 ≤ strideS f
  t1 : strideS f ≤ 4096
  p0 : 0 ≤ f.pad
  p1 : f.pad ≤ 4096
theorem row_tail {w : World} {b o c : Nat} {s : List Int} (h : Row .i64 w (.slice (some ⟨b, o, none⟩) s.length c) s) (h1 : 1 ≤ s.length) : Row .i64 w (.slice (some ⟨b, o + 1, none⟩) (s.length - 1) (c - 1)) s.tail := by
  obtain ⟨a', c', e, h2, h3, h4⟩ := h
  cases e
  refine ⟨_, _, by rw [List.length_tail], by simp; omega, by omega, fun hn => ?_⟩
  obtain ⟨b', o', e, hc⟩ := h4 (by intro e; subst e; simp at h1)
  cases e
  refine ⟨b, o + 1, rfl, fun i hi => ?_⟩
  have hi' : i + 1 < s.length := by rw [List.length_tail] at hi; omega
  have := hc (i + 1) hi'
  rw [show o + 1 + i = o + (i + 1) by omega, this]
  simp [List.getD_eq_getElem?_getD, List.getElem?_tail]
set_option maxHeartbeats 2000000 in
set_option maxRecDepth 100000 in
theorem image_no {f : LayF} {s : List Int} {bv ov pv : Value} {ia : Option Addr} {ic S : Nat} {first fin : Bool} {nm : ByteArray} {bad : Int} {w : World} (h : Blk w S 71 (stepA f bv (.slice ia s.length ic) ov pv first nm bad fin)) (h2 : s.length ≠ 2) (h3 : s.length ≠ 3) :
    Calls Tryd.prog 81 #[.pointer (some ⟨S, 0, none⟩)] w fun e w' => e = .returned (.tuple #[.slice none 0 0, .bool false]) ∧ Ext w w' := by
  have k9 := (h.cell 9).trans (show (stepA f bv (.slice ia s.length ic) ov pv first nm bad fin)[9]? = some (.slice ia s.length ic) from rfl)
  generalize s.length = n at *
  clear h
  have t1 : ((n : Int) != 2) = true := by simp; omega
  have t2 : ((n : Int) != 3) = true := by simp; omega
  go_enter Tryd.func81, Tryd.ntmps81
  go_wp2
  go_ret2
  exact ⟨rfl, (by repeat (first | with_reducible exact Ext.refl _ | with_reducible apply Ext.drew | with_reducible apply Ext.drewN | with_reducible apply Ext.alloc | ((with_reducible refine Ext.setCell ?_ ?_ _); rotate_left; focus (first | (simp; done) | (simp; omega) | omega)) | with_reducible refine Ext.tr ?_ x1 | with_reducible refine Ext.tr ?_ x2 | with_reducible refine Ext.tr ?_ hx | with_reducible refine Ext.tr ?_ hext | with_reducible assumption))⟩
set_option maxHeartbeats 8000000 in
set_option maxRecDepth 100000 in
theorem image_any {f : LayF} {s : List Int} {ov pv : Value} {ba ia : Option Addr} {bn bc ic S : Nat} {first fin : Bool} {nm : ByteArray} {bad : Int} {w : World} (h : Blk w S 71 (stepA f (.slice ba bn bc) (.slice ia s.length ic) ov pv first nm bad fin))
    (hr : Row .i64 w (.slice ia s.length ic) s) (hb : ∀ l ∈ s, 1 ≤ l ∧ l ≤ 4096) (hw : WinOk f) :
    Calls Tryd.prog 81 #[.pointer (some ⟨S, 0, none⟩)] w fun e w' => (imageS f s = none ∧ e = .returned (.tuple #[.slice none 0 0, .bool false]) ∧ Ext w w') ∨
      (∃ p oa oc, imageS f s = some p ∧ e = .returned (.tuple #[.slice oa p.length oc, .bool true]) ∧ Ext w w' ∧ Row .i64 w' (.slice oa p.length oc) p) := by
  by_cases hl : s.length = 2 ∨ s.length = 3
  · have IM : imageS f s = placesS f.size (strideS f) f.pad s.tail := by unfold imageS; rw [if_pos hl]
    rw [IM]
    obtain ⟨b, o, rfl, -⟩ := row_cell hr (show 0 < s.length by omega)
    have RT := Lib.hid (row_tail hr (by omega))
    have LT : s.tail.length = s.length - 1 := List.length_tail
    have HBT := Lib.hid (fun l (hm : l ∈ s.tail) => hb l (List.mem_of_mem_tail hm))
    have KE := Lib.hid (fun (W : World) (x : Ext w W) => kernel_any (f := f) (ba := ba) (bn := bn) (bc := bc) (hr.ext x) hl)
    have hcap : s.length ≤ ic := by obtain ⟨_, _, e, h1, _⟩ := hr; cases e; exact h1
    have hcm : ic ≤ maxLen := by obtain ⟨_, _, e, _, h1, _⟩ := hr; cases e; exact h1
    unfold maxLen at hcm
    have h1c : ¬ ic = 1 := by omega
    have h2c : (1 : Int) ≤ (s.length : Int) := by omega
    have h3c : (s.length : Int) ≤ (ic : Int) := by omega
    have ON := Lib.hid (fun (W : World) (gk gs gp gd : Nat) hi hk hs hp hd hn => over_no (ls := s.tail) (a := some ⟨b, o + 1, none⟩) (c := ic - 1) (gk := gk) (gs := gs) (gp := gp) (gd := gd) (w := W) (Z := f.size) (T := strideS f) (P := f.pad) hi hk hs hp hd (by omega) HBT.out hw.z0 hw.z1 hw.t0 hw.t1 hw.p0 hw.p1 hn)
    have OY := Lib.hid (fun (W : World) (gk gs gp gd : Nat) (p : List Int) hi hk hs hp hd hn => over_yes (ls := s.tail) (a := some ⟨b, o + 1, none⟩) (c := ic - 1) (gk := gk) (gs := gs) (gp := gp) (gd := gd) (w := W) (Z := f.size) (T := strideS f) (P := f.pad) hi hk hs hp hd (by omega) HBT.out hw.z0 hw.z1 hw.t0 hw.t1 hw.p0 hw.p1 (p := p) hn)
    rw [LT] at ON OY
    have HL := Lib.hid hl
    clear IM hr hb hw LT HBT
    generalize strideS f = st at *
    generalize placesS f.size st f.pad s.tail = PS at *
    obtain ⟨K, I, O, Z, T, P, C, H⟩ := f
    simp only [stepA, layA] at *
    obtain ⟨m, hm⟩ : ∃ m, s.length = m + 1 := ⟨s.length - 1, by omega⟩
    have nn : m = 1 ∨ m = 2 := by omega
    simp only [hm, Nat.add_sub_cancel] at h RT KE ON OY h2c h3c hcap
    clear HL hl hm
    have k0 := (h.cell 0).trans (show (#[.int .i64 K, .int .i64 I, .int .i64 O, .int .i64 Z, .int .i64 T, .int .i64 P, .int .i64 C, .int .i64 H, .slice ba bn bc, .slice (some ⟨b, o, none⟩) (m + 1) ic, ov, pv, .bool first, .string nm, .int .i64 bad, .bool fin] : Array Value)[0]? = some (.int .i64 K) from rfl)
    have k1 := (h.cell 1).trans (show (#[.int .i64 K, .int .i64 I, .int .i64 O, .int .i64 Z, .int .i64 T, .int .i64 P, .int .i64 C, .int .i64 H, .slice ba bn bc, .slice (some ⟨b, o, none⟩) (m + 1) ic, ov, pv, .bool first, .string nm, .int .i64 bad, .bool fin] : Array Value)[1]? = some (.int .i64 I) from rfl)
    have k2 := (h.cell 2).trans (show (#[.int .i64 K, .int .i64 I, .int .i64 O, .int .i64 Z, .int .i64 T, .int .i64 P, .int .i64 C, .int .i64 H, .slice ba bn bc, .slice (some ⟨b, o, none⟩) (m + 1) ic, ov, pv, .bool first, .string nm, .int .i64 bad, .bool fin] : Array Value)[2]? = some (.int .i64 O) from rfl)
    have k3 := (h.cell 3).trans (show (#[.int .i64 K, .int .i64 I, .int .i64 O, .int .i64 Z, .int .i64 T, .int .i64 P, .int .i64 C, .int .i64 H, .slice ba bn bc, .slice (some ⟨b, o, none⟩) (m + 1) ic, ov, pv, .bool first, .string nm, .int .i64 bad, .bool fin] : Array Value)[3]? = some (.int .i64 Z) from rfl)
    have k4 := (h.cell 4).trans (show (#[.int .i64 K, .int .i64 I, .int .i64 O, .int .i64 Z, .int .i64 T, .int .i64 P, .int .i64 C, .int .i64 H, .slice ba bn bc, .slice (some ⟨b, o, none⟩) (m + 1) ic, ov, pv, .bool first, .string nm, .int .i64 bad, .bool fin] : Array Value)[4]? = some (.int .i64 T) from rfl)
    have k5 := (h.cell 5).trans (show (#[.int .i64 K, .int .i64 I, .int .i64 O, .int .i64 Z, .int .i64 T, .int .i64 P, .int .i64 C, .int .i64 H, .slice ba bn bc, .slice (some ⟨b, o, none⟩) (m + 1) ic, ov, pv, .bool first, .string nm, .int .i64 bad, .bool fin] : Array Value)[5]? = some (.int .i64 P) from rfl)
    have k6 := (h.cell 6).trans (show (#[.int .i64 K, .int .i64 I, .int .i64 O, .int .i64 Z, .int .i64 T, .int .i64 P, .int .i64 C, .int .i64 H, .slice ba bn bc, .slice (some ⟨b, o, none⟩) (m + 1) ic, ov, pv, .bool first, .string nm, .int .i64 bad, .bool fin] : Array Value)[6]? = some (.int .i64 C) from rfl)
    have k7 := (h.cell 7).trans (show (#[.int .i64 K, .int .i64 I, .int .i64 O, .int .i64 Z, .int .i64 T, .int .i64 P, .int .i64 C, .int .i64 H, .slice ba bn bc, .slice (some ⟨b, o, none⟩) (m + 1) ic, ov, pv, .bool first, .string nm, .int .i64 bad, .bool fin] : Array Value)[7]? = some (.int .i64 H) from rfl)
    have k8 := (h.cell 8).trans (show (#[.int .i64 K, .int .i64 I, .int .i64 O, .int .i64 Z, .int .i64 T, .int .i64 P, .int .i64 C, .int .i64 H, .slice ba bn bc, .slice (some ⟨b, o, none⟩) (m + 1) ic, ov, pv, .bool first, .string nm, .int .i64 bad, .bool fin] : Array Value)[8]? = some (.slice ba bn bc) from rfl)
    have k9 := (h.cell 9).trans (show (#[.int .i64 K, .int .i64 I, .int .i64 O, .int .i64 Z, .int .i64 T, .int .i64 P, .int .i64 C, .int .i64 H, .slice ba bn bc, .slice (some ⟨b, o, none⟩) (m + 1) ic, ov, pv, .bool first, .string nm, .int .i64 bad, .bool fin] : Array Value)[9]? = some (.slice (some ⟨b, o, none⟩) (m + 1) ic) from rfl)
    have zS := h.lt
    clear h
    rcases nn with rfl | rfl
    · simp only [Nat.reduceAdd] at *
      go_enter Tryd.func81, Tryd.ntmps81
      go_wp2_with fail
      go_cut [4, 5] (fun s4 s5 W => ∃ A g1 g2 g3 g4 : Nat, s4 = .pointer (some ⟨A, 0, none⟩) ∧ s5 = rowG g4 1 ∧ Blk W A 101 #[.slice none 0 0, rowG g1 1, rowG g2 1, rowG g3 1] ∧ Ext w W ∧ Row .i64 W (rowG g1 1) (List.replicate 1 st) ∧ Row .i64 W (rowG g2 1) (List.replicate 1 P) ∧ Row .i64 W (rowG g3 1) (List.replicate 1 1) ∧ Row .i64 W (rowG g4 1) (List.replicate 1 Z))
      case first => as_aux_lemma =>
        go_region_held3 (fun w' => w'.cell? ⟨S, 0, none⟩ = some (.int .i64 K) ∧ w'.cell? ⟨S, 1, none⟩ = some (.int .i64 I) ∧ w'.cell? ⟨S, 2, none⟩ = some (.int .i64 O) ∧ w'.cell? ⟨S, 3, none⟩ = some (.int .i64 Z) ∧ w'.cell? ⟨S, 4, none⟩ = some (.int .i64 T) ∧ w'.cell? ⟨S, 5, none⟩ = some (.int .i64 P) ∧ w'.cell? ⟨S, 6, none⟩ = some (.int .i64 C) ∧ w'.cell? ⟨S, 7, none⟩ = some (.int .i64 H) ∧ w'.cell? ⟨S, 8, none⟩ = some (.slice ba bn bc) ∧ w'.cell? ⟨S, 9, none⟩ = some (.slice (some ⟨b, o, none⟩) 2 ic) ∧ S < w'.heap.size ∧ Ext w w')
          (refine ⟨?_, ?_, ?_, ?_, ?_, ?_, ?_, ?_, ?_, ?_, ?_, ?_⟩ <;> first | (simp [go_sem, *]; done) | omega | (simp at z1; omega) | (simp at z2; omega) | (simp at z3; omega) | (simp at z4; omega) | exact (by repeat (first | with_reducible exact Ext.refl _ | with_reducible apply Ext.drew | with_reducible apply Ext.drewN | with_reducible apply Ext.alloc | ((with_reducible refine Ext.setCell ?_ ?_ _); rotate_left; focus (first | (simp; done) | (simp; omega) | omega)) | with_reducible refine Ext.tr ?_ x1 | with_reducible refine Ext.tr ?_ x2 | with_reducible refine Ext.tr ?_ hx | with_reducible refine Ext.tr ?_ hext | with_reducible assumption)))
          ((go_at_call 82; refine (KE.out _ (by repeat (first | with_reducible exact Ext.refl _ | with_reducible apply Ext.drew | with_reducible apply Ext.drewN | with_reducible apply Ext.alloc | ((with_reducible refine Ext.setCell ?_ ?_ _); rotate_left; focus (first | (simp; done) | (simp; omega) | omega)) | with_reducible refine Ext.tr ?_ x1 | with_reducible refine Ext.tr ?_ x2 | with_reducible refine Ext.tr ?_ hx | with_reducible refine Ext.tr ?_ hext | with_reducible assumption))).mono ?_; rintro e v1 ⟨g1, g2, g3, g4, rfl, x1, h1⟩; obtain ⟨c1, f1⟩ := x1.rules; have z1 := x1.size; (try (have k1_w_heap_size_0 := c1 (w.heap.size) 0 (by first | (simp; done) | (simp; omega) | omega); have q1_w_heap_size_0 := f1 (w.heap.size) 0 (by first | (simp; done) | (simp; omega) | omega); have k1_w_heap_size_1 := c1 (w.heap.size) 1 (by first | (simp; done) | (simp; omega) | omega); have q1_w_heap_size_1 := f1 (w.heap.size) 1 (by first | (simp; done) | (simp; omega) | omega); have k1_w_heap_size_2 := c1 (w.heap.size) 2 (by first | (simp; done) | (simp; omega) | omega); have q1_w_heap_size_2 := f1 (w.heap.size) 2 (by first | (simp; done) | (simp; omega) | omega); have k1_w_heap_size_3 := c1 (w.heap.size) 3 (by first | (simp; done) | (simp; omega) | omega); have q1_w_heap_size_3 := f1 (w.heap.size) 3 (by first | (simp; done) | (simp; omega) | omega); have z1_w_heap_size : w.heap.size < v1.heap.size := (by (try simp at z1); omega); simp [go_sem, *, -c1, -f1] at k1_w_heap_size_0 q1_w_heap_size_0 k1_w_heap_size_1 q1_w_heap_size_1 k1_w_heap_size_2 q1_w_heap_size_2 k1_w_heap_size_3 q1_w_heap_size_3)); have k1_S_0 := c1 (S) 0 (by first | (simp; done) | (simp; omega) | omega); have q1_S_0 := f1 (S) 0 (by first | (simp; done) | (simp; omega) | omega); have k1_S_1 := c1 (S) 1 (by first | (simp; done) | (simp; omega) | omega); have q1_S_1 := f1 (S) 1 (by first | (simp; done) | (simp; omega) | omega); have k1_S_2 := c1 (S) 2 (by first | (simp; done) | (simp; omega) | omega); have q1_S_2 := f1 (S) 2 (by first | (simp; done) | (simp; omega) | omega); have k1_S_3 := c1 (S) 3 (by first | (simp; done) | (simp; omega) | omega); have q1_S_3 := f1 (S) 3 (by first | (simp; done) | (simp; omega) | omega); have k1_S_4 := c1 (S) 4 (by first | (simp; done) | (simp; omega) | omega); have q1_S_4 := f1 (S) 4 (by first | (simp; done) | (simp; omega) | omega); have k1_S_5 := c1 (S) 5 (by first | (simp; done) | (simp; omega) | omega); have q1_S_5 := f1 (S) 5 (by first | (simp; done) | (simp; omega) | omega); have k1_S_6 := c1 (S) 6 (by first | (simp; done) | (simp; omega) | omega); have q1_S_6 := f1 (S) 6 (by first | (simp; done) | (simp; omega) | omega); have k1_S_7 := c1 (S) 7 (by first | (simp; done) | (simp; omega) | omega); have q1_S_7 := f1 (S) 7 (by first | (simp; done) | (simp; omega) | omega); have k1_S_8 := c1 (S) 8 (by first | (simp; done) | (simp; omega) | omega); have q1_S_8 := f1 (S) 8 (by first | (simp; done) | (simp; omega) | omega); have k1_S_9 := c1 (S) 9 (by first | (simp; done) | (simp; omega) | omega); have q1_S_9 := f1 (S) 9 (by first | (simp; done) | (simp; omega) | omega); have z1_S : S < v1.heap.size := (by (try simp at z1); omega); (try simp at z1); clear c1 f1; simp [go_sem, *] at k1_S_0 q1_S_0 k1_S_1 q1_S_1 k1_S_2 q1_S_2 k1_S_3 q1_S_3 k1_S_4 q1_S_4 k1_S_5 q1_S_5 k1_S_6 q1_S_6 k1_S_7 q1_S_7 k1_S_8 q1_S_8 k1_S_9 q1_S_9; clear KE; have H1 := Lib.hid h1; clear h1))
        · go_wp2_with fail
          go_meet
          obtain ⟨r1, r2, r3, r4, -⟩ := H1.out
          exact ⟨_, g1, g2, g3, g4, rfl, rfl, Blk.new _ _ _, (by repeat (first | with_reducible exact Ext.refl _ | with_reducible apply Ext.drew | with_reducible apply Ext.drewN | with_reducible apply Ext.alloc | ((with_reducible refine Ext.setCell ?_ ?_ _); rotate_left; focus (first | (simp; done) | (simp; omega) | omega)) | with_reducible refine Ext.tr ?_ x1 | with_reducible refine Ext.tr ?_ x2 | with_reducible refine Ext.tr ?_ hx | with_reducible refine Ext.tr ?_ hext | with_reducible assumption)), r1.ext (by repeat (first | with_reducible exact Ext.refl _ | with_reducible apply Ext.drew | with_reducible apply Ext.drewN | with_reducible apply Ext.alloc | ((with_reducible refine Ext.setCell ?_ ?_ _); rotate_left; focus (first | (simp; done) | (simp; omega) | omega)) | with_reducible refine Ext.tr ?_ x1 | with_reducible refine Ext.tr ?_ x2 | with_reducible refine Ext.tr ?_ hx | with_reducible refine Ext.tr ?_ hext | with_reducible assumption)), r2.ext (by repeat (first | with_reducible exact Ext.refl _ | with_reducible apply Ext.drew | with_reducible apply Ext.drewN | with_reducible apply Ext.alloc | ((with_reducible refine Ext.setCell ?_ ?_ _); rotate_left; focus (first | (simp; done) | (simp; omega) | omega)) | with_reducible refine Ext.tr ?_ x1 | with_reducible refine Ext.tr ?_ x2 | with_reducible refine Ext.tr ?_ hx | with_reducible refine Ext.tr ?_ hext | with_reducible assumption)), r3.ext (by repeat (first | with_reducible exact Ext.refl _ | with_reducible apply Ext.drew | with_reducible apply Ext.drewN | with_reducible apply Ext.alloc | ((with_reducible refine Ext.setCell ?_ ?_ _); rotate_left; focus (first | (simp; done) | (simp; omega) | omega)) | with_reducible refine Ext.tr ?_ x1 | with_reducible refine Ext.tr ?_ x2 | with_reducible refine Ext.tr ?_ hx | with_reducible refine Ext.tr ?_ hext | with_reducible assumption)), r4.ext (by repeat (first | with_reducible exact Ext.refl _ | with_reducible apply Ext.drew | with_reducible apply Ext.drewN | with_reducible apply Ext.alloc | ((with_reducible refine Ext.setCell ?_ ?_ _); rotate_left; focus (first | (simp; done) | (simp; omega) | omega)) | with_reducible refine Ext.tr ?_ x1 | with_reducible refine Ext.tr ?_ x2 | with_reducible refine Ext.tr ?_ hx | with_reducible refine Ext.tr ?_ hext | with_reducible assumption))⟩
        · go_wp2_with fail
          go_meet
          obtain ⟨r1, r2, r3, r4, b1, b2, b3, b4⟩ := H1.out
          simp at b1 b2 b3 b4
          have n1 : g1 ≠ w.heap.size := by omega
          have n2 : g2 ≠ w.heap.size := by omega
          have n3 : g3 ≠ w.heap.size := by omega
          have n4 : g4 ≠ w.heap.size := by omega
          have B := ((Blk.new w.drew 101 #[.slice none 0 0, .slice none 0 0, .slice none 0 0, .slice none 0 0]).ext x1)
          exact ⟨_, g1, g2, g3, g4, rfl, rfl, (((B.set_ 0 (.slice none 0 0)).set_ 1 (rowG g1 1)).set_ 2 (rowG g2 1)).set_ 3 (rowG g3 1), (by repeat (first | with_reducible exact Ext.refl _ | with_reducible apply Ext.drew | with_reducible apply Ext.drewN | with_reducible apply Ext.alloc | ((with_reducible refine Ext.setCell ?_ ?_ _); rotate_left; focus (first | (simp; done) | (simp; omega) | omega)) | with_reducible refine Ext.tr ?_ x1 | with_reducible refine Ext.tr ?_ x2 | with_reducible refine Ext.tr ?_ hx | with_reducible refine Ext.tr ?_ hext | with_reducible assumption)), row_far (row_far (row_far (row_far r1 n1) n1) n1) n1, row_far (row_far (row_far (row_far r2 n2) n2) n2) n2, row_far (row_far (row_far (row_far r3 n3) n3) n3) n3, row_far (row_far (row_far (row_far r4 n4) n4) n4) n4⟩
      case rest =>
        obtain ⟨A, g1, g2, g3, g4, rfl, rfl, ba1, xA, r1, r2, r3, r4⟩ := hcut
        have X0 := Lib.hid xA
        have k9' := xA.cell k9
        have a0 := (ba1.cell 0).trans (show (#[.slice none 0 0, rowG g1 1, rowG g2 1, rowG g3 1] : Array Value)[0]? = some (.slice none 0 0) from rfl)
        have a1 := (ba1.cell 1).trans (show (#[.slice none 0 0, rowG g1 1, rowG g2 1, rowG g3 1] : Array Value)[1]? = some (rowG g1 1) from rfl)
        have a2 := (ba1.cell 2).trans (show (#[.slice none 0 0, rowG g1 1, rowG g2 1, rowG g3 1] : Array Value)[2]? = some (rowG g2 1) from rfl)
        have a3 := (ba1.cell 3).trans (show (#[.slice none 0 0, rowG g1 1, rowG g2 1, rowG g3 1] : Array Value)[3]? = some (rowG g3 1) from rfl)
        have zA := ba1.lt
        have RTc := RT.out.ext xA
        have zS' : S < wc.heap.size := Nat.lt_of_lt_of_le zS xA.size
        have zz : w.heap.size ≤ wc.heap.size := xA.size
        cases hPS : PS with
        | none =>
          have NOC := Lib.hid (fun (W : World) (x : Ext wc W) => ON.out W g4 g1 g2 g3 (RTc.ext x) (r4.ext x) (r1.ext x) (r2.ext x) (r3.ext x) hPS)
          have HPS := Lib.hid hPS
          clear ON OY KE RT r1 r2 r3 r4 RTc xA ba1 k0 k1 k2 k3 k4 k5 k6 k7 k8 k9 hPS
          go_wp2_with fail
          go_region_held3 (fun w' => w'.cell? ⟨S, 9, none⟩ = some (.slice (some ⟨b, o, none⟩) 2 ic) ∧ w'.cell? ⟨A, 0, none⟩ = some (.slice none 0 0) ∧ w'.cell? ⟨A, 1, none⟩ = some (rowG g1 1) ∧ w'.cell? ⟨A, 2, none⟩ = some (rowG g2 1) ∧ w'.cell? ⟨A, 3, none⟩ = some (rowG g3 1) ∧ S < w'.heap.size ∧ A < w'.heap.size ∧ Ext wc w')
            (refine ⟨?_, ?_, ?_, ?_, ?_, ?_, ?_, ?_⟩ <;> first | (simp [go_sem, *]; done) | omega | (simp at z1; omega) | (simp at z2; omega) | (simp at z3; omega) | (simp at z4; omega) | exact (by repeat (first | with_reducible exact Ext.refl _ | with_reducible apply Ext.drew | with_reducible apply Ext.drewN | with_reducible apply Ext.alloc | ((with_reducible refine Ext.setCell ?_ ?_ _); rotate_left; focus (first | (simp; done) | (simp; omega) | omega)) | with_reducible refine Ext.tr ?_ x1 | with_reducible refine Ext.tr ?_ x2 | with_reducible refine Ext.tr ?_ hx | with_reducible refine Ext.tr ?_ hext | with_reducible assumption)))
            ((go_at_call 91; refine (NOC.out _ (by repeat (first | with_reducible exact Ext.refl _ | with_reducible apply Ext.drew | with_reducible apply Ext.drewN | with_reducible apply Ext.alloc | ((with_reducible refine Ext.setCell ?_ ?_ _); rotate_left; focus (first | (simp; done) | (simp; omega) | omega)) | with_reducible refine Ext.tr ?_ x1 | with_reducible refine Ext.tr ?_ x2 | with_reducible refine Ext.tr ?_ hx | with_reducible refine Ext.tr ?_ hext | with_reducible assumption))).mono ?_; rintro e v2 ⟨rfl, x2⟩; obtain ⟨c2, f2⟩ := x2.rules; have z2 := x2.size; (try (have k2_wc_heap_size_0 := c2 (wc.heap.size) 0 (by first | (simp; done) | (simp; omega) | omega); have q2_wc_heap_size_0 := f2 (wc.heap.size) 0 (by first | (simp; done) | (simp; omega) | omega); have k2_wc_heap_size_1 := c2 (wc.heap.size) 1 (by first | (simp; done) | (simp; omega) | omega); have q2_wc_heap_size_1 := f2 (wc.heap.size) 1 (by first | (simp; done) | (simp; omega) | omega); have k2_wc_heap_size_2 := c2 (wc.heap.size) 2 (by first | (simp; done) | (simp; omega) | omega); have q2_wc_heap_size_2 := f2 (wc.heap.size) 2 (by first | (simp; done) | (simp; omega) | omega); have k2_wc_heap_size_3 := c2 (wc.heap.size) 3 (by first | (simp; done) | (simp; omega) | omega); have q2_wc_heap_size_3 := f2 (wc.heap.size) 3 (by first | (simp; done) | (simp; omega) | omega); have k2_wc_heap_size_4 := c2 (wc.heap.size) 4 (by first | (simp; done) | (simp; omega) | omega); have q2_wc_heap_size_4 := f2 (wc.heap.size) 4 (by first | (simp; done) | (simp; omega) | omega); have k2_wc_heap_size_5 := c2 (wc.heap.size) 5 (by first | (simp; done) | (simp; omega) | omega); have q2_wc_heap_size_5 := f2 (wc.heap.size) 5 (by first | (simp; done) | (simp; omega) | omega); have k2_wc_heap_size_6 := c2 (wc.heap.size) 6 (by first | (simp; done) | (simp; omega) | omega); have q2_wc_heap_size_6 := f2 (wc.heap.size) 6 (by first | (simp; done) | (simp; omega) | omega); have z2_wc_heap_size : wc.heap.size < v2.heap.size := (by (try simp at z2); omega); simp [go_sem, *, -c2, -f2] at k2_wc_heap_size_0 q2_wc_heap_size_0 k2_wc_heap_size_1 q2_wc_heap_size_1 k2_wc_heap_size_2 q2_wc_heap_size_2 k2_wc_heap_size_3 q2_wc_heap_size_3 k2_wc_heap_size_4 q2_wc_heap_size_4 k2_wc_heap_size_5 q2_wc_heap_size_5 k2_wc_heap_size_6 q2_wc_heap_size_6)); clear NOC; have y2 : Ext wc v2 := (by repeat (first | with_reducible exact Ext.refl _ | with_reducible apply Ext.drew | with_reducible apply Ext.drewN | with_reducible apply Ext.alloc | ((with_reducible refine Ext.setCell ?_ ?_ _); rotate_left; focus (first | (simp; done) | (simp; omega) | omega)) | with_reducible refine Ext.tr ?_ x1 | with_reducible refine Ext.tr ?_ x2 | with_reducible refine Ext.tr ?_ hx | with_reducible refine Ext.tr ?_ hext | with_reducible assumption)); have m9 := y2.cell k9'; have m0 := y2.cell a0; have m1 := y2.cell a1; have m2 := y2.cell a2; have m3 := y2.cell a3; have mz := cell_lt m9; have mA := cell_lt m0; simp only at mz mA))
          all_goals
            go_wp2
            go_ret2
            exact .inl ⟨HPS.out, rfl, by have x0 := X0.out; exact (by repeat (first | with_reducible exact Ext.refl _ | with_reducible apply Ext.drew | with_reducible apply Ext.drewN | with_reducible apply Ext.alloc | ((with_reducible refine Ext.setCell ?_ ?_ _); rotate_left; focus (first | (simp; done) | (simp; omega) | omega)) | with_reducible refine Ext.tr ?_ x1 | with_reducible refine Ext.tr ?_ x2 | with_reducible refine Ext.tr ?_ hx | with_reducible refine Ext.tr ?_ hext | with_reducible assumption))⟩
        | some p =>
          have NOC := Lib.hid (fun (W : World) (x : Ext wc W) => OY.out W g4 g1 g2 g3 p (RTc.ext x) (r4.ext x) (r1.ext x) (r2.ext x) (r3.ext x) hPS)
          have HPS := Lib.hid hPS
          clear ON OY KE RT r1 r2 r3 r4 RTc xA ba1 k0 k1 k2 k3 k4 k5 k6 k7 k8 k9 hPS
          go_wp2_with fail
          go_region_held3 (fun w' => w'.cell? ⟨S, 9, none⟩ = some (.slice (some ⟨b, o, none⟩) 2 ic) ∧ w'.cell? ⟨A, 0, none⟩ = some (.slice none 0 0) ∧ w'.cell? ⟨A, 1, none⟩ = some (rowG g1 1) ∧ w'.cell? ⟨A, 2, none⟩ = some (rowG g2 1) ∧ w'.cell? ⟨A, 3, none⟩ = some (rowG g3 1) ∧ S < w'.heap.size ∧ A < w'.heap.size ∧ Ext wc w')
            (refine ⟨?_, ?_, ?_, ?_, ?_, ?_, ?_, ?_⟩ <;> first | (simp [go_sem, *]; done) | omega | (simp at z1; omega) | (simp at z2; omega) | (simp at z3; omega) | (simp at z4; omega) | exact (by repeat (first | with_reducible exact Ext.refl _ | with_reducible apply Ext.drew | with_reducible apply Ext.drewN | with_reducible apply Ext.alloc | ((with_reducible refine Ext.setCell ?_ ?_ _); rotate_left; focus (first | (simp; done) | (simp; omega) | omega)) | with_reducible refine Ext.tr ?_ x1 | with_reducible refine Ext.tr ?_ x2 | with_reducible refine Ext.tr ?_ hx | with_reducible refine Ext.tr ?_ hext | with_reducible assumption)))
            ((go_at_call 91; refine (NOC.out _ (by repeat (first | with_reducible exact Ext.refl _ | with_reducible apply Ext.drew | with_reducible apply Ext.drewN | with_reducible apply Ext.alloc | ((with_reducible refine Ext.setCell ?_ ?_ _); rotate_left; focus (first | (simp; done) | (simp; omega) | omega)) | with_reducible refine Ext.tr ?_ x1 | with_reducible refine Ext.tr ?_ x2 | with_reducible refine Ext.tr ?_ hx | with_reducible refine Ext.tr ?_ hext | with_reducible assumption))).mono ?_; rintro e v2 ⟨oa, oc, rfl, x2, h2⟩; obtain ⟨c2, f2⟩ := x2.rules; have z2 := x2.size; (try (have k2_wc_heap_size_0 := c2 (wc.heap.size) 0 (by first | (simp; done) | (simp; omega) | omega); have q2_wc_heap_size_0 := f2 (wc.heap.size) 0 (by first | (simp; done) | (simp; omega) | omega); have k2_wc_heap_size_1 := c2 (wc.heap.size) 1 (by first | (simp; done) | (simp; omega) | omega); have q2_wc_heap_size_1 := f2 (wc.heap.size) 1 (by first | (simp; done) | (simp; omega) | omega); have k2_wc_heap_size_2 := c2 (wc.heap.size) 2 (by first | (simp; done) | (simp; omega) | omega); have q2_wc_heap_size_2 := f2 (wc.heap.size) 2 (by first | (simp; done) | (simp; omega) | omega); have k2_wc_heap_size_3 := c2 (wc.heap.size) 3 (by first | (simp; done) | (simp; omega) | omega); have q2_wc_heap_size_3 := f2 (wc.heap.size) 3 (by first | (simp; done) | (simp; omega) | omega); have k2_wc_heap_size_4 := c2 (wc.heap.size) 4 (by first | (simp; done) | (simp; omega) | omega); have q2_wc_heap_size_4 := f2 (wc.heap.size) 4 (by first | (simp; done) | (simp; omega) | omega); have k2_wc_heap_size_5 := c2 (wc.heap.size) 5 (by first | (simp; done) | (simp; omega) | omega); have q2_wc_heap_size_5 := f2 (wc.heap.size) 5 (by first | (simp; done) | (simp; omega) | omega); have k2_wc_heap_size_6 := c2 (wc.heap.size) 6 (by first | (simp; done) | (simp; omega) | omega); have q2_wc_heap_size_6 := f2 (wc.heap.size) 6 (by first | (simp; done) | (simp; omega) | omega); have z2_wc_heap_size : wc.heap.size < v2.heap.size := (by (try simp at z2); omega); simp [go_sem, *, -c2, -f2] at k2_wc_heap_size_0 q2_wc_heap_size_0 k2_wc_heap_size_1 q2_wc_heap_size_1 k2_wc_heap_size_2 q2_wc_heap_size_2 k2_wc_heap_size_3 q2_wc_heap_size_3 k2_wc_heap_size_4 q2_wc_heap_size_4 k2_wc_heap_size_5 q2_wc_heap_size_5 k2_wc_heap_size_6 q2_wc_heap_size_6)); clear NOC; have H2 := Lib.hid h2; clear h2; have y2 : Ext wc v2 := (by repeat (first | with_reducible exact Ext.refl _ | with_reducible apply Ext.drew | with_reducible apply Ext.drewN | with_reducible apply Ext.alloc | ((with_reducible refine Ext.setCell ?_ ?_ _); rotate_left; focus (first | (simp; done) | (simp; omega) | omega)) | with_reducible refine Ext.tr ?_ x1 | with_reducible refine Ext.tr ?_ x2 | with_reducible refine Ext.tr ?_ hx | with_reducible refine Ext.tr ?_ hext | with_reducible assumption)); have m9 := y2.cell k9'; have m0 := y2.cell a0; have m1 := y2.cell a1; have m2 := y2.cell a2; have m3 := y2.cell a3; have mz := cell_lt m9; have mA := cell_lt m0; simp only at mz mA))
          · go_wp2
            go_ret2
            refine .inr ⟨p, oa, oc, HPS.out, rfl, by have x0 := X0.out; exact (by repeat (first | with_reducible exact Ext.refl _ | with_reducible apply Ext.drew | with_reducible apply Ext.drewN | with_reducible apply Ext.alloc | ((with_reducible refine Ext.setCell ?_ ?_ _); rotate_left; focus (first | (simp; done) | (simp; omega) | omega)) | with_reducible refine Ext.tr ?_ x1 | with_reducible refine Ext.tr ?_ x2 | with_reducible refine Ext.tr ?_ hx | with_reducible refine Ext.tr ?_ hext | with_reducible assumption)), ?_⟩
            obtain ⟨h2, n2⟩ := H2.out
            exact h2.ext (by repeat (first | with_reducible exact Ext.refl _ | with_reducible apply Ext.drew | with_reducible apply Ext.drewN | with_reducible apply Ext.alloc | ((with_reducible refine Ext.setCell ?_ ?_ _); rotate_left; focus (first | (simp; done) | (simp; omega) | omega)) | with_reducible refine Ext.tr ?_ x1 | with_reducible refine Ext.tr ?_ x2 | with_reducible refine Ext.tr ?_ hx | with_reducible refine Ext.tr ?_ hext | with_reducible assumption))
          · go_wp2
            go_ret2
            refine .inr ⟨p, oa, oc, HPS.out, rfl, by have x0 := X0.out; exact (by repeat (first | with_reducible exact Ext.refl _ | with_reducible apply Ext.drew | with_reducible apply Ext.drewN | with_reducible apply Ext.alloc | ((with_reducible refine Ext.setCell ?_ ?_ _); rotate_left; focus (first | (simp; done) | (simp; omega) | omega)) | with_reducible refine Ext.tr ?_ x1 | with_reducible refine Ext.tr ?_ x2 | with_reducible refine Ext.tr ?_ hx | with_reducible refine Ext.tr ?_ hext | with_reducible assumption)), ?_⟩
            obtain ⟨h2, n2⟩ := H2.out
            have hne : ∀ q, (Value.slice oa p.length oc).ownBlock = some q → q ≠ wc.heap.size := fun q hq => by have := n2 q hq; simp at this; omega
            clear n2
            iterate 7 with_reducible refine row_off ?_ hne
            exact h2
    · simp only [Nat.reduceAdd] at *
      go_enter Tryd.func81, Tryd.ntmps81
      go_wp2_with fail
      go_cut [4, 5] (fun s4 s5 W => ∃ A g1 g2 g3 g4 : Nat, s4 = .pointer (some ⟨A, 0, none⟩) ∧ s5 = rowG g4 2 ∧ Blk W A 101 #[.slice none 0 0, rowG g1 2, rowG g2 2, rowG g3 2] ∧ Ext w W ∧ Row .i64 W (rowG g1 2) (List.replicate 2 st) ∧ Row .i64 W (rowG g2 2) (List.replicate 2 P) ∧ Row .i64 W (rowG g3 2) (List.replicate 2 1) ∧ Row .i64 W (rowG g4 2) (List.replicate 2 Z))
      case first => as_aux_lemma =>
        go_region_held3 (fun w' => w'.cell? ⟨S, 0, none⟩ = some (.int .i64 K) ∧ w'.cell? ⟨S, 1, none⟩ = some (.int .i64 I) ∧ w'.cell? ⟨S, 2, none⟩ = some (.int .i64 O) ∧ w'.cell? ⟨S, 3, none⟩ = some (.int .i64 Z) ∧ w'.cell? ⟨S, 4, none⟩ = some (.int .i64 T) ∧ w'.cell? ⟨S, 5, none⟩ = some (.int .i64 P) ∧ w'.cell? ⟨S, 6, none⟩ = some (.int .i64 C) ∧ w'.cell? ⟨S, 7, none⟩ = some (.int .i64 H) ∧ w'.cell? ⟨S, 8, none⟩ = some (.slice ba bn bc) ∧ w'.cell? ⟨S, 9, none⟩ = some (.slice (some ⟨b, o, none⟩) 3 ic) ∧ S < w'.heap.size ∧ Ext w w')
          (refine ⟨?_, ?_, ?_, ?_, ?_, ?_, ?_, ?_, ?_, ?_, ?_, ?_⟩ <;> first | (simp [go_sem, *]; done) | omega | (simp at z1; omega) | (simp at z2; omega) | (simp at z3; omega) | (simp at z4; omega) | exact (by repeat (first | with_reducible exact Ext.refl _ | with_reducible apply Ext.drew | with_reducible apply Ext.drewN | with_reducible apply Ext.alloc | ((with_reducible refine Ext.setCell ?_ ?_ _); rotate_left; focus (first | (simp; done) | (simp; omega) | omega)) | with_reducible refine Ext.tr ?_ x1 | with_reducible refine Ext.tr ?_ x2 | with_reducible refine Ext.tr ?_ hx | with_reducible refine Ext.tr ?_ hext | with_reducible assumption)))
          ((go_at_call 82; refine (KE.out _ (by repeat (first | with_reducible exact Ext.refl _ | with_reducible apply Ext.drew | with_reducible apply Ext.drewN | with_reducible apply Ext.alloc | ((with_reducible refine Ext.setCell ?_ ?_ _); rotate_left; focus (first | (simp; done) | (simp; omega) | omega)) | with_reducible refine Ext.tr ?_ x1 | with_reducible refine Ext.tr ?_ x2 | with_reducible refine Ext.tr ?_ hx | with_reducible refine Ext.tr ?_ hext | with_reducible assumption))).mono ?_; rintro e v1 ⟨g1, g2, g3, g4, rfl, x1, h1⟩; obtain ⟨c1, f1⟩ := x1.rules; have z1 := x1.size; (try (have k1_w_heap_size_0 := c1 (w.heap.size) 0 (by first | (simp; done) | (simp; omega) | omega); have q1_w_heap_size_0 := f1 (w.heap.size) 0 (by first | (simp; done) | (simp; omega) | omega); have k1_w_heap_size_1 := c1 (w.heap.size) 1 (by first | (simp; done) | (simp; omega) | omega); have q1_w_heap_size_1 := f1 (w.heap.size) 1 (by first | (simp; done) | (simp; omega) | omega); have k1_w_heap_size_2 := c1 (w.heap.size) 2 (by first | (simp; done) | (simp; omega) | omega); have q1_w_heap_size_2 := f1 (w.heap.size) 2 (by first | (simp; done) | (simp; omega) | omega); have k1_w_heap_size_3 := c1 (w.heap.size) 3 (by first | (simp; done) | (simp; omega) | omega); have q1_w_heap_size_3 := f1 (w.heap.size) 3 (by first | (simp; done) | (simp; omega) | omega); have z1_w_heap_size : w.heap.size < v1.heap.size := (by (try simp at z1); omega); simp [go_sem, *, -c1, -f1] at k1_w_heap_size_0 q1_w_heap_size_0 k1_w_heap_size_1 q1_w_heap_size_1 k1_w_heap_size_2 q1_w_heap_size_2 k1_w_heap_size_3 q1_w_heap_size_3)); have k1_S_0 := c1 (S) 0 (by first | (simp; done) | (simp; omega) | omega); have q1_S_0 := f1 (S) 0 (by first | (simp; done) | (simp; omega) | omega); have k1_S_1 := c1 (S) 1 (by first | (simp; done) | (simp; omega) | omega); have q1_S_1 := f1 (S) 1 (by first | (simp; done) | (simp; omega) | omega); have k1_S_2 := c1 (S) 2 (by first | (simp; done) | (simp; omega) | omega); have q1_S_2 := f1 (S) 2 (by first | (simp; done) | (simp; omega) | omega); have k1_S_3 := c1 (S) 3 (by first | (simp; done) | (simp; omega) | omega); have q1_S_3 := f1 (S) 3 (by first | (simp; done) | (simp; omega) | omega); have k1_S_4 := c1 (S) 4 (by first | (simp; done) | (simp; omega) | omega); have q1_S_4 := f1 (S) 4 (by first | (simp; done) | (simp; omega) | omega); have k1_S_5 := c1 (S) 5 (by first | (simp; done) | (simp; omega) | omega); have q1_S_5 := f1 (S) 5 (by first | (simp; done) | (simp; omega) | omega); have k1_S_6 := c1 (S) 6 (by first | (simp; done) | (simp; omega) | omega); have q1_S_6 := f1 (S) 6 (by first | (simp; done) | (simp; omega) | omega); have k1_S_7 := c1 (S) 7 (by first | (simp; done) | (simp; omega) | omega); have q1_S_7 := f1 (S) 7 (by first | (simp; done) | (simp; omega) | omega); have k1_S_8 := c1 (S) 8 (by first | (simp; done) | (simp; omega) | omega); have q1_S_8 := f1 (S) 8 (by first | (simp; done) | (simp; omega) | omega); have k1_S_9 := c1 (S) 9 (by first | (simp; done) | (simp; omega) | omega); have q1_S_9 := f1 (S) 9 (by first | (simp; done) | (simp; omega) | omega); have z1_S : S < v1.heap.size := (by (try simp at z1); omega); (try simp at z1); clear c1 f1; simp [go_sem, *] at k1_S_0 q1_S_0 k1_S_1 q1_S_1 k1_S_2 q1_S_2 k1_S_3 q1_S_3 k1_S_4 q1_S_4 k1_S_5 q1_S_5 k1_S_6 q1_S_6 k1_S_7 q1_S_7 k1_S_8 q1_S_8 k1_S_9 q1_S_9; clear KE; have H1 := Lib.hid h1; clear h1))
        · go_wp2_with fail
          go_meet
          obtain ⟨r1, r2, r3, r4, -⟩ := H1.out
          exact ⟨_, g1, g2, g3, g4, rfl, rfl, Blk.new _ _ _, (by repeat (first | with_reducible exact Ext.refl _ | with_reducible apply Ext.drew | with_reducible apply Ext.drewN | with_reducible apply Ext.alloc | ((with_reducible refine Ext.setCell ?_ ?_ _); rotate_left; focus (first | (simp; done) | (simp; omega) | omega)) | with_reducible refine Ext.tr ?_ x1 | with_reducible refine Ext.tr ?_ x2 | with_reducible refine Ext.tr ?_ hx | with_reducible refine Ext.tr ?_ hext | with_reducible assumption)), r1.ext (by repeat (first | with_reducible exact Ext.refl _ | with_reducible apply Ext.drew | with_reducible apply Ext.drewN | with_reducible apply Ext.alloc | ((with_reducible refine Ext.setCell ?_ ?_ _); rotate_left; focus (first | (simp; done) | (simp; omega) | omega)) | with_reducible refine Ext.tr ?_ x1 | with_reducible refine Ext.tr ?_ x2 | with_reducible refine Ext.tr ?_ hx | with_reducible refine Ext.tr ?_ hext | with_reducible assumption)), r2.ext (by repeat (first | with_reducible exact Ext.refl _ | with_reducible apply Ext.drew | with_reducible apply Ext.drewN | with_reducible apply Ext.alloc | ((with_reducible refine Ext.setCell ?_ ?_ _); rotate_left; focus (first | (simp; done) | (simp; omega) | omega)) | with_reducible refine Ext.tr ?_ x1 | with_reducible refine Ext.tr ?_ x2 | with_reducible refine Ext.tr ?_ hx | with_reducible refine Ext.tr ?_ hext | with_reducible assumption)), r3.ext (by repeat (first | with_reducible exact Ext.refl _ | with_reducible apply Ext.drew | with_reducible apply Ext.drewN | with_reducible apply Ext.alloc | ((with_reducible refine Ext.setCell ?_ ?_ _); rotate_left; focus (first | (simp; done) | (simp; omega) | omega)) | with_reducible refine Ext.tr ?_ x1 | with_reducible refine Ext.tr ?_ x2 | with_reducible refine Ext.tr ?_ hx | with_reducible refine Ext.tr ?_ hext | with_reducible assumption)), r4.ext (by repeat (first | with_reducible exact Ext.refl _ | with_reducible apply Ext.drew | with_reducible apply Ext.drewN | with_reducible apply Ext.alloc | ((with_reducible refine Ext.setCell ?_ ?_ _); rotate_left; focus (first | (simp; done) | (simp; omega) | omega)) | with_reducible refine Ext.tr ?_ x1 | with_reducible refine Ext.tr ?_ x2 | with_reducible refine Ext.tr ?_ hx | with_reducible refine Ext.tr ?_ hext | with_reducible assumption))⟩
        · go_wp2_with fail
          go_meet
          obtain ⟨r1, r2, r3, r4, b1, b2, b3, b4⟩ := H1.out
          simp at b1 b2 b3 b4
          have n1 : g1 ≠ w.heap.size := by omega
          have n2 : g2 ≠ w.heap.size := by omega
          have n3 : g3 ≠ w.heap.size := by omega
          have n4 : g4 ≠ w.heap.size := by omega
          have B := ((Blk.new w.drew 101 #[.slice none 0 0, .slice none 0 0, .slice none 0 0, .slice none 0 0]).ext x1)
          exact ⟨_, g1, g2, g3, g4, rfl, rfl, (((B.set_ 0 (.slice none 0 0)).set_ 1 (rowG g1 2)).set_ 2 (rowG g2 2)).set_ 3 (rowG g3 2), (by repeat (first | with_reducible exact Ext.refl _ | with_reducible apply Ext.drew | with_reducible apply Ext.drewN | with_reducible apply Ext.alloc | ((with_reducible refine Ext.setCell ?_ ?_ _); rotate_left; focus (first | (simp; done) | (simp; omega) | omega)) | with_reducible refine Ext.tr ?_ x1 | with_reducible refine Ext.tr ?_ x2 | with_reducible refine Ext.tr ?_ hx | with_reducible refine Ext.tr ?_ hext | with_reducible assumption)), row_far (row_far (row_far (row_far r1 n1) n1) n1) n1, row_far (row_far (row_far (row_far r2 n2) n2) n2) n2, row_far (row_far (row_far (row_far r3 n3) n3) n3) n3, row_far (row_far (row_far (row_far r4 n4) n4) n4) n4⟩
      case rest =>
        obtain ⟨A, g1, g2, g3, g4, rfl, rfl, ba1, xA, r1, r2, r3, r4⟩ := hcut
        have X0 := Lib.hid xA
        have k9' := xA.cell k9
        have a0 := (ba1.cell 0).trans (show (#[.slice none 0 0, rowG g1 2, rowG g2 2, rowG g3 2] : Array Value)[0]? = some (.slice none 0 0) from rfl)
        have a1 := (ba1.cell 1).trans (show (#[.slice none 0 0, rowG g1 2, rowG g2 2, rowG g3 2] : Array Value)[1]? = some (rowG g1 2) from rfl)
        have a2 := (ba1.cell 2).trans (show (#[.slice none 0 0, rowG g1 2, rowG g2 2, rowG g3 2] : Array Value)[2]? = some (rowG g2 2) from rfl)
        have a3 := (ba1.cell 3).trans (show (#[.slice none 0 0, rowG g1 2, rowG g2 2, rowG g3 2] : Array Value)[3]? = some (rowG g3 2) from rfl)
        have zA := ba1.lt
        have RTc := RT.out.ext xA
        have zS' : S < wc.heap.size := Nat.lt_of_lt_of_le zS xA.size
        have zz : w.heap.size ≤ wc.heap.size := xA.size
        cases hPS : PS with
        | none =>
          have NOC := Lib.hid (fun (W : World) (x : Ext wc W) => ON.out W g4 g1 g2 g3 (RTc.ext x) (r4.ext x) (r1.ext x) (r2.ext x) (r3.ext x) hPS)
          have HPS := Lib.hid hPS
          clear ON OY KE RT r1 r2 r3 r4 RTc xA ba1 k0 k1 k2 k3 k4 k5 k6 k7 k8 k9 hPS
          go_wp2_with fail
          go_region_held3 (fun w' => w'.cell? ⟨S, 9, none⟩ = some (.slice (some ⟨b, o, none⟩) 3 ic) ∧ w'.cell? ⟨A, 0, none⟩ = some (.slice none 0 0) ∧ w'.cell? ⟨A, 1, none⟩ = some (rowG g1 2) ∧ w'.cell? ⟨A, 2, none⟩ = some (rowG g2 2) ∧ w'.cell? ⟨A, 3, none⟩ = some (rowG g3 2) ∧ S < w'.heap.size ∧ A < w'.heap.size ∧ Ext wc w')
            (refine ⟨?_, ?_, ?_, ?_, ?_, ?_, ?_, ?_⟩ <;> first | (simp [go_sem, *]; done) | omega | (simp at z1; omega) | (simp at z2; omega) | (simp at z3; omega) | (simp at z4; omega) | exact (by repeat (first | with_reducible exact Ext.refl _ | with_reducible apply Ext.drew | with_reducible apply Ext.drewN | with_reducible apply Ext.alloc | ((with_reducible refine Ext.setCell ?_ ?_ _); rotate_left; focus (first | (simp; done) | (simp; omega) | omega)) | with_reducible refine Ext.tr ?_ x1 | with_reducible refine Ext.tr ?_ x2 | with_reducible refine Ext.tr ?_ hx | with_reducible refine Ext.tr ?_ hext | with_reducible assumption)))
            ((go_at_call 91; refine (NOC.out _ (by repeat (first | with_reducible exact Ext.refl _ | with_reducible apply Ext.drew | with_reducible apply Ext.drewN | with_reducible apply Ext.alloc | ((with_reducible refine Ext.setCell ?_ ?_ _); rotate_left; focus (first | (simp; done) | (simp; omega) | omega)) | with_reducible refine Ext.tr ?_ x1 | with_reducible refine Ext.tr ?_ x2 | with_reducible refine Ext.tr ?_ hx | with_reducible refine Ext.tr ?_ hext | with_reducible assumption))).mono ?_; rintro e v2 ⟨rfl, x2⟩; obtain ⟨c2, f2⟩ := x2.rules; have z2 := x2.size; (try (have k2_wc_heap_size_0 := c2 (wc.heap.size) 0 (by first | (simp; done) | (simp; omega) | omega); have q2_wc_heap_size_0 := f2 (wc.heap.size) 0 (by first | (simp; done) | (simp; omega) | omega); have k2_wc_heap_size_1 := c2 (wc.heap.size) 1 (by first | (simp; done) | (simp; omega) | omega); have q2_wc_heap_size_1 := f2 (wc.heap.size) 1 (by first | (simp; done) | (simp; omega) | omega); have k2_wc_heap_size_2 := c2 (wc.heap.size) 2 (by first | (simp; done) | (simp; omega) | omega); have q2_wc_heap_size_2 := f2 (wc.heap.size) 2 (by first | (simp; done) | (simp; omega) | omega); have k2_wc_heap_size_3 := c2 (wc.heap.size) 3 (by first | (simp; done) | (simp; omega) | omega); have q2_wc_heap_size_3 := f2 (wc.heap.size) 3 (by first | (simp; done) | (simp; omega) | omega); have k2_wc_heap_size_4 := c2 (wc.heap.size) 4 (by first | (simp; done) | (simp; omega) | omega); have q2_wc_heap_size_4 := f2 (wc.heap.size) 4 (by first | (simp; done) | (simp; omega) | omega); have k2_wc_heap_size_5 := c2 (wc.heap.size) 5 (by first | (simp; done) | (simp; omega) | omega); have q2_wc_heap_size_5 := f2 (wc.heap.size) 5 (by first | (simp; done) | (simp; omega) | omega); have k2_wc_heap_size_6 := c2 (wc.heap.size) 6 (by first | (simp; done) | (simp; omega) | omega); have q2_wc_heap_size_6 := f2 (wc.heap.size) 6 (by first | (simp; done) | (simp; omega) | omega); have z2_wc_heap_size : wc.heap.size < v2.heap.size := (by (try simp at z2); omega); simp [go_sem, *, -c2, -f2] at k2_wc_heap_size_0 q2_wc_heap_size_0 k2_wc_heap_size_1 q2_wc_heap_size_1 k2_wc_heap_size_2 q2_wc_heap_size_2 k2_wc_heap_size_3 q2_wc_heap_size_3 k2_wc_heap_size_4 q2_wc_heap_size_4 k2_wc_heap_size_5 q2_wc_heap_size_5 k2_wc_heap_size_6 q2_wc_heap_size_6)); clear NOC; have y2 : Ext wc v2 := (by repeat (first | with_reducible exact Ext.refl _ | with_reducible apply Ext.drew | with_reducible apply Ext.drewN | with_reducible apply Ext.alloc | ((with_reducible refine Ext.setCell ?_ ?_ _); rotate_left; focus (first | (simp; done) | (simp; omega) | omega)) | with_reducible refine Ext.tr ?_ x1 | with_reducible refine Ext.tr ?_ x2 | with_reducible refine Ext.tr ?_ hx | with_reducible refine Ext.tr ?_ hext | with_reducible assumption)); have m9 := y2.cell k9'; have m0 := y2.cell a0; have m1 := y2.cell a1; have m2 := y2.cell a2; have m3 := y2.cell a3; have mz := cell_lt m9; have mA := cell_lt m0; simp only at mz mA))
          all_goals
            go_wp2
            go_ret2
            exact .inl ⟨HPS.out, rfl, by have x0 := X0.out; exact (by repeat (first | with_reducible exact Ext.refl _ | with_reducible apply Ext.drew | with_reducible apply Ext.drewN | with_reducible apply Ext.alloc | ((with_reducible refine Ext.setCell ?_ ?_ _); rotate_left; focus (first | (simp; done) | (simp; omega) | omega)) | with_reducible refine Ext.tr ?_ x1 | with_reducible refine Ext.tr ?_ x2 | with_reducible refine Ext.tr ?_ hx | with_reducible refine Ext.tr ?_ hext | with_reducible assumption))⟩
        | some p =>
          have NOC := Lib.hid (fun (W : World) (x : Ext wc W) => OY.out W g4 g1 g2 g3 p (RTc.ext x) (r4.ext x) (r1.ext x) (r2.ext x) (r3.ext x) hPS)
          have HPS := Lib.hid hPS
          clear ON OY KE RT r1 r2 r3 r4 RTc xA ba1 k0 k1 k2 k3 k4 k5 k6 k7 k8 k9 hPS
          go_wp2_with fail
          go_region_held3 (fun w' => w'.cell? ⟨S, 9, none⟩ = some (.slice (some ⟨b, o, none⟩) 3 ic) ∧ w'.cell? ⟨A, 0, none⟩ = some (.slice none 0 0) ∧ w'.cell? ⟨A, 1, none⟩ = some (rowG g1 2) ∧ w'.cell? ⟨A, 2, none⟩ = some (rowG g2 2) ∧ w'.cell? ⟨A, 3, none⟩ = some (rowG g3 2) ∧ S < w'.heap.size ∧ A < w'.heap.size ∧ Ext wc w')
            (refine ⟨?_, ?_, ?_, ?_, ?_, ?_, ?_, ?_⟩ <;> first | (simp [go_sem, *]; done) | omega | (simp at z1; omega) | (simp at z2; omega) | (simp at z3; omega) | (simp at z4; omega) | exact (by repeat (first | with_reducible exact Ext.refl _ | with_reducible apply Ext.drew | with_reducible apply Ext.drewN | with_reducible apply Ext.alloc | ((with_reducible refine Ext.setCell ?_ ?_ _); rotate_left; focus (first | (simp; done) | (simp; omega) | omega)) | with_reducible refine Ext.tr ?_ x1 | with_reducible refine Ext.tr ?_ x2 | with_reducible refine Ext.tr ?_ hx | with_reducible refine Ext.tr ?_ hext | with_reducible assumption)))
            ((go_at_call 91; refine (NOC.out _ (by repeat (first | with_reducible exact Ext.refl _ | with_reducible apply Ext.drew | with_reducible apply Ext.drewN | with_reducible apply Ext.alloc | ((with_reducible refine Ext.setCell ?_ ?_ _); rotate_left; focus (first | (simp; done) | (simp; omega) | omega)) | with_reducible refine Ext.tr ?_ x1 | with_reducible refine Ext.tr ?_ x2 | with_reducible refine Ext.tr ?_ hx | with_reducible refine Ext.tr ?_ hext | with_reducible assumption))).mono ?_; rintro e v2 ⟨oa, oc, rfl, x2, h2⟩; obtain ⟨c2, f2⟩ := x2.rules; have z2 := x2.size; (try (have k2_wc_heap_size_0 := c2 (wc.heap.size) 0 (by first | (simp; done) | (simp; omega) | omega); have q2_wc_heap_size_0 := f2 (wc.heap.size) 0 (by first | (simp; done) | (simp; omega) | omega); have k2_wc_heap_size_1 := c2 (wc.heap.size) 1 (by first | (simp; done) | (simp; omega) | omega); have q2_wc_heap_size_1 := f2 (wc.heap.size) 1 (by first | (simp; done) | (simp; omega) | omega); have k2_wc_heap_size_2 := c2 (wc.heap.size) 2 (by first | (simp; done) | (simp; omega) | omega); have q2_wc_heap_size_2 := f2 (wc.heap.size) 2 (by first | (simp; done) | (simp; omega) | omega); have k2_wc_heap_size_3 := c2 (wc.heap.size) 3 (by first | (simp; done) | (simp; omega) | omega); have q2_wc_heap_size_3 := f2 (wc.heap.size) 3 (by first | (simp; done) | (simp; omega) | omega); have k2_wc_heap_size_4 := c2 (wc.heap.size) 4 (by first | (simp; done) | (simp; omega) | omega); have q2_wc_heap_size_4 := f2 (wc.heap.size) 4 (by first | (simp; done) | (simp; omega) | omega); have k2_wc_heap_size_5 := c2 (wc.heap.size) 5 (by first | (simp; done) | (simp; omega) | omega); have q2_wc_heap_size_5 := f2 (wc.heap.size) 5 (by first | (simp; done) | (simp; omega) | omega); have k2_wc_heap_size_6 := c2 (wc.heap.size) 6 (by first | (simp; done) | (simp; omega) | omega); have q2_wc_heap_size_6 := f2 (wc.heap.size) 6 (by first | (simp; done) | (simp; omega) | omega); have z2_wc_heap_size : wc.heap.size < v2.heap.size := (by (try simp at z2); omega); simp [go_sem, *, -c2, -f2] at k2_wc_heap_size_0 q2_wc_heap_size_0 k2_wc_heap_size_1 q2_wc_heap_size_1 k2_wc_heap_size_2 q2_wc_heap_size_2 k2_wc_heap_size_3 q2_wc_heap_size_3 k2_wc_heap_size_4 q2_wc_heap_size_4 k2_wc_heap_size_5 q2_wc_heap_size_5 k2_wc_heap_size_6 q2_wc_heap_size_6)); clear NOC; have H2 := Lib.hid h2; clear h2; have y2 : Ext wc v2 := (by repeat (first | with_reducible exact Ext.refl _ | with_reducible apply Ext.drew | with_reducible apply Ext.drewN | with_reducible apply Ext.alloc | ((with_reducible refine Ext.setCell ?_ ?_ _); rotate_left; focus (first | (simp; done) | (simp; omega) | omega)) | with_reducible refine Ext.tr ?_ x1 | with_reducible refine Ext.tr ?_ x2 | with_reducible refine Ext.tr ?_ hx | with_reducible refine Ext.tr ?_ hext | with_reducible assumption)); have m9 := y2.cell k9'; have m0 := y2.cell a0; have m1 := y2.cell a1; have m2 := y2.cell a2; have m3 := y2.cell a3; have mz := cell_lt m9; have mA := cell_lt m0; simp only at mz mA))
          · go_wp2
            go_ret2
            refine .inr ⟨p, oa, oc, HPS.out, rfl, by have x0 := X0.out; exact (by repeat (first | with_reducible exact Ext.refl _ | with_reducible apply Ext.drew | with_reducible apply Ext.drewN | with_reducible apply Ext.alloc | ((with_reducible refine Ext.setCell ?_ ?_ _); rotate_left; focus (first | (simp; done) | (simp; omega) | omega)) | with_reducible refine Ext.tr ?_ x1 | with_reducible refine Ext.tr ?_ x2 | with_reducible refine Ext.tr ?_ hx | with_reducible refine Ext.tr ?_ hext | with_reducible assumption)), ?_⟩
            obtain ⟨h2, n2⟩ := H2.out
            exact h2.ext (by repeat (first | with_reducible exact Ext.refl _ | with_reducible apply Ext.drew | with_reducible apply Ext.drewN | with_reducible apply Ext.alloc | ((with_reducible refine Ext.setCell ?_ ?_ _); rotate_left; focus (first | (simp; done) | (simp; omega) | omega)) | with_reducible refine Ext.tr ?_ x1 | with_reducible refine Ext.tr ?_ x2 | with_reducible refine Ext.tr ?_ hx | with_reducible refine Ext.tr ?_ hext | with_reducible assumption))
          · go_wp2
            go_ret2
            refine .inr ⟨p, oa, oc, HPS.out, rfl, by have x0 := X0.out; exact (by repeat (first | with_reducible exact Ext.refl _ | with_reducible apply Ext.drew | with_reducible apply Ext.drewN | with_reducible apply Ext.alloc | ((with_reducible refine Ext.setCell ?_ ?_ _); rotate_left; focus (first | (simp; done) | (simp; omega) | omega)) | with_reducible refine Ext.tr ?_ x1 | with_reducible refine Ext.tr ?_ x2 | with_reducible refine Ext.tr ?_ hx | with_reducible refine Ext.tr ?_ hext | with_reducible assumption)), ?_⟩
            obtain ⟨h2, n2⟩ := H2.out
            have hne : ∀ q, (Value.slice oa p.length oc).ownBlock = some q → q ≠ wc.heap.size := fun q hq => by have := n2 q hq; simp at this; omega
            clear n2
            iterate 7 with_reducible refine row_off ?_ hne
            exact h2
  · have IM : imageS f s = none := by unfold imageS; rw [if_neg hl]
    refine (image_no h (by omega) (by omega)).mono ?_
    rintro e w' ⟨h1, h2⟩
    exact .inl ⟨IM, h1, h2⟩
end Go.Proofs.YtgokenbojppnhaaDoor
namespace Go.Proofs.YtgokenbojppnhaaDoor
open Go.RowKit
attribute [local go_sem ↓] Go.wp_at_zero Go.wp_at_succ
def parA (p : ParamP) (v : Value) : Array Value := #[.string (ba p.name), v, .int .i64 p.inn, .int .i64 p.out]
def parCells (qs : List (ParamP × Value)) : List Value := qs.flatMap (fun q => (parA q.1 q.2).toList)
theorem parCells_len (qs : List (ParamP × Value)) : (parCells qs).length = qs.length * 4 := by
  induction qs with
  | nil => rfl
  | cons p ps ih => simp only [parCells, List.flatMap_cons, List.length_append] at ih ⊢; rw [ih]; simp [parA]; omega
theorem parCells_snoc (qs : List (ParamP × Value)) (q : ParamP × Value) : parCells (qs ++ [q]) = parCells qs ++ (parA q.1 q.2).toList := by simp [parCells]
theorem parCells_app (qs rs : List (ParamP × Value)) : parCells (qs ++ rs) = parCells qs ++ parCells rs := by simp [parCells]
/-- Parameters in own memory: a row of them, each with its shape in a row of its own. -/
def ParsAt (base : Nat) (w : World) (v : Value) (ps : List ParamP) : Prop :=
  ∃ qs : List (ParamP × Value), qs.map Prod.fst = ps ∧ w.ownsRow base 43 4 v ps.length (parCells qs) ∧ ∀ q ∈ qs, w.ownsRow base 3 1 q.2 q.1.shape.length (q.1.shape.map (Value.int .i64))
theorem ParsAt.nil (base : Nat) (w : World) : ParsAt base w (.slice none 0 0) [] := ⟨[], rfl, World.ownsRow_nil _ _ _ _, fun q h => by cases h⟩
theorem ParsAt.form {base : Nat} {w : World} {v : Value} {ps : List ParamP} (h : ParsAt base w v ps) : ∃ a c, v = .slice a ps.length c := by
  obtain ⟨qs, -, h1, -⟩ := h
  rcases h1.2 with ⟨rfl, h0⟩ | ⟨g, cap, _, rfl, _⟩
  · exact ⟨none, 0, by rw [h0]⟩
  · exact ⟨_, _, rfl⟩
theorem ParsAt.ext {base : Nat} {w w' : World} {v : Value} {ps : List ParamP} (h : ParsAt base w v ps) (x : Ext w w') : ParsAt base w' v ps := by
  obtain ⟨qs, h0, h1, h2⟩ := h
  exact ⟨qs, h0, own_old h1 x, fun q hq => own_old (h2 q hq) x⟩
theorem ParsAt.base {base base' : Nat} {w : World} {v : Value} {ps : List ParamP} (h : ParsAt base w v ps) (hb : base' ≤ base) : ParsAt base' w v ps := by
  obtain ⟨qs, h0, h1, h2⟩ := h
  exact ⟨qs, h0, own_base h1 hb, fun q hq => own_base (h2 q hq) hb⟩
/-- Blocks of one type that are at base or behind lie as they lay. -/
def KeepT (base : Nat) (t : TypeId) (w w' : World) : Prop := ∀ (k : Nat) (cs : Array Value) (fr : Nat × Nat), base ≤ k → w.heap[k]? = some (Obj.cells cs t fr) → w'.heap[k]? = some (Obj.cells cs t fr)
theorem own_keep {w w' : World} {base : Nat} {e : TypeId} {size : Nat} {v : Value} {n : Nat} {xs : List Value} (h : w.ownsRow base e size v n xs) (x : KeepT base e w w') : w'.ownsRow base e size v n xs := by
  refine ⟨h.1, ?_⟩
  rcases h.2 with h | ⟨g, cap, cur, h1, h2, h3, h4⟩
  · exact .inl h
  · exact .inr ⟨g, cap, cur, h1, h2, x g cur _ h2 h3, h4⟩
theorem ParsAt.keep {base : Nat} {w w' : World} {v : Value} {ps : List ParamP} (h : ParsAt base w v ps) (x : KeepT base 43 w w') (y : KeepT base 3 w w') : ParsAt base w' v ps := by
  obtain ⟨qs, h0, h1, h2⟩ := h
  exact ⟨qs, h0, own_keep h1 x, fun q hq => own_keep (h2 q hq) y⟩
/-- What a method of a step may turn: block S, and rows of parameters that were made since. -/
structure Chg (B S : Nat) (w w' : World) : Prop where
  os : w'.os = w.os
  tape : w'.tape = w.tape
  output : w'.output = w.output
  size : w.heap.size ≤ w'.heap.size
  old : ∀ k : Nat, k < B → k ≠ S → w'.heap[k]? = w.heap[k]?
  ints : ∀ (k : Nat) (cs : Array Value) (fr : Nat × Nat), w.heap[k]? = some (Obj.cells cs 3 fr) → w'.heap[k]? = some (Obj.cells cs 3 fr)
theorem Chg.ext {B S : Nat} {w w' : World} (x : Ext w w') (hB : B ≤ w.heap.size) : Chg B S w w' :=
  ⟨x.os, x.tape, x.output, x.size, fun k hk _ => x.block k (Nat.lt_of_lt_of_le hk hB), fun k _ _ h => (x.block k (Array.getElem?_eq_some_iff.1 h).1).trans h⟩
theorem Chg.trans {B S : Nat} {a b c : World} (h : Chg B S a b) (k : Chg B S b c) : Chg B S a c :=
  ⟨k.os.trans h.os, k.tape.trans h.tape, k.output.trans h.output, Nat.le_trans h.size k.size, fun i hi hn => (k.old i hi hn).trans (h.old i hi hn), fun i cs fr e => k.ints i cs fr (h.ints i cs fr e)⟩
theorem Chg.gb {w0 w w' : World} {S : Nat} (h : GB w0 w S) (k : Chg w0.heap.size S w w') : GB w0 w' S :=
  ⟨k.os.trans h.os, k.tape.trans h.tape, k.output.trans h.output, Nat.le_trans h.size k.size, fun i hi hn => (k.old i hi (fun e => hn (e ▸ rfl))).trans (h.block i hi hn)⟩
theorem Chg.int {B S : Nat} {w w' : World} (h : Chg B S w w') (base : Nat) : KeepT base 3 w w' := fun k cs fr _ e => h.ints k cs fr e
/-- A growth by rows of parameters, then a store into block S. -/
theorem Chg.grow {B S o : Nat} {w w' : World} {row : Option Nat} {u : Value} {t : TypeId} {cs : Array Value} (hg : w.grownBy w' row) (hr : ∀ k, row = some k → B ≤ k ∧ ∃ cs fr, w.heap[k]? = some (Obj.cells cs 43 fr)) (hS : Blk w S t cs) (ht : t ≠ 3) (hB : B ≤ w.heap.size) : Chg B S w (w'.setCell ⟨S, o, none⟩ u) := by
  refine ⟨hg.os, hg.tape, hg.output, Nat.le_trans hg.size (KeepsWalks.setCell w' _ u).size, fun k hk hn => ?_, fun k ks fr e => ?_⟩
  · rw [Below.heap_setCell _ _ _ k hn]
    exact hg.block k (by omega) (fun e => by have := (hr k e.symm).1; omega)
  · have hn : k ≠ S := by
      rintro rfl
      unfold Blk at hS
      rw [hS] at e
      cases e
      exact ht rfl
    rw [Below.heap_setCell _ _ _ k hn]
    refine (hg.block k (Array.getElem?_eq_some_iff.1 e).1 (fun e2 => ?_)).trans e
    obtain ⟨-, cs', fr', e3⟩ := hr k e2.symm
    rw [e3] at e
    cases e
theorem par_info : (Tryd.prog.info? 43).map (fun i => (i.zero, i.size, i.bytes)) = some (some (.agg #[.string ⟨#[]⟩, .slice none 0 0, .int .i64 0, .int .i64 0]), 4, 56) := by kernel_rfl
theorem own_type {w : World} {base : Nat} {e : TypeId} {size : Nat} {v : Value} {n : Nat} {xs : List Value} (h : w.ownsRow base e size v n xs) : ∀ k, v.ownBlock = some k → base ≤ k ∧ ∃ cs fr, w.heap[k]? = some (Obj.cells cs e fr) := by
  intro k hk
  rcases h.2 with ⟨rfl, _⟩ | ⟨g, cap, cur, rfl, h2, h3, h4⟩
  · cases hk
  · cases hk
    exact ⟨h2, _, _, h3⟩
theorem own_form2 {w : World} {base : Nat} {e : TypeId} {size : Nat} {v : Value} {n : Nat} {xs : List Value} (h : w.ownsRow base e size v n xs) : ∃ a c, v = .slice a n c := by
  rcases h.2 with ⟨rfl, h0⟩ | ⟨g, cap, _, rfl, _⟩
  · exact ⟨none, 0, by rw [h0]⟩
  · exact ⟨_, _, rfl⟩
/-- A parameter more, in a row behind the others. -/
theorem ParsAt.snoc {B : Nat} {w1 : World} {a' : Option Addr} {c' n : Nat} {qs : List (ParamP × Value)} {ps : List ParamP} {p : ParamP} {sv : Value} (hq : qs.map Prod.fst = ps) (hn : ps.length = n) (hrest : ∀ q ∈ qs, w1.ownsRow B 3 1 q.2 q.1.shape.length (q.1.shape.map (Value.int .i64))) (hsv : w1.ownsRow B 3 1 sv p.shape.length (p.shape.map (Value.int .i64)))
    (ho : w1.ownsRow B 43 4 (.slice a' (n + 1) c') (n + 1) (parCells qs ++ (parA p sv).toList)) : ParsAt B w1 (.slice a' (n + 1) c') (ps ++ [p]) :=
  ⟨qs ++ [(p, sv)], by simp [hq], by rw [parCells_snoc, List.length_append, hn]; exact ho, fun q hm => by
    rcases List.mem_append.1 hm with h | h
    · exact hrest q h
    · have : q = (p, sv) := by simpa using h
      subst this
      exact hsv⟩
set_option maxHeartbeats 4000000 in
set_option maxRecDepth 100000 in
theorem sparam_any {f : LayF} {bv iv ov pv sv : Value} {first fin : Bool} {nm l1 : Bs} {bad fi fo : Int} {B S : Nat} {w : World} {ps : List ParamP} {sh : List Int} {A1 : ByteArray} (h : Blk w S 71 (stepA f bv iv ov pv first (ba nm) bad fin)) (hp : ParsAt B w pv ps) (hB : B ≤ w.heap.size) (hS : S < B) (hA : ba l1 = A1) (hl : l1.length ≤ 4) (hn : nm.length ≤ 1000) (hps : ps.length ≤ 1000)
    (hsv : w.ownsRow B 3 1 sv sh.length (sh.map (Value.int .i64))) :
    Calls Tryd.prog 80 #[.pointer (some ⟨S, 0, none⟩), .string A1, .int .i64 fi, .int .i64 fo, sv] w fun e w' => ∃ pa pc, e = .returned (.tuple #[]) ∧ Blk w' S 71 (stepA f bv iv ov (.slice pa (ps.length + 1) pc) first (ba nm) bad fin) ∧ ParsAt B w' (.slice pa (ps.length + 1) pc) (ps ++ [⟨nm ++ [46] ++ l1, sh, fi, fo⟩]) ∧ Chg B S w w' := by
  obtain ⟨i0, hi0, hz0, hz1, hz2⟩ := info_parts par_info
  obtain ⟨pa, pc, rfl⟩ := hp.form
  obtain ⟨sa, sc, rfl⟩ := own_form2 hsv
  obtain ⟨qs, hq, hown, hrest⟩ := hp
  have k11 := (h.cell 11).trans (show (stepA f bv iv ov (.slice pa ps.length pc) first (ba nm) bad fin)[11]? = some (.slice pa ps.length pc) from rfl)
  have k13 := (h.cell 13).trans (show (stepA f bv iv ov (.slice pa ps.length pc) first (ba nm) bad fin)[13]? = some (.string (ba nm)) from rfl)
  obtain ⟨N, hN⟩ : ∃ N, ba nm = N := ⟨_, rfl⟩
  rw [hN] at k13
  have sN : N.size = nm.length := by rw [← hN]; exact ba_size nm
  have sA : A1.size = l1.length := by rw [← hA]; exact ba_size l1
  obtain ⟨M, hM⟩ : ∃ M, ba (nm ++ [46]) = M := ⟨_, rfl⟩
  obtain ⟨C, hC⟩ : ∃ C, ba (nm ++ [46] ++ l1) = C := ⟨_, rfl⟩
  have sM : M.size = nm.length + 1 := by rw [← hM, ba_size]; simp
  have a1 := add_ba (A := N) (B := ⟨#[46]⟩) (C := M) (by rw [← hN, ← hM, ← ba_app]; rfl) (by rw [sN]; show nm.length + 1 ≤ _; omega)
  have a2 := add_ba (A := M) (B := A1) (C := C) (by rw [← hM, ← hA, ← hC, ba_app]) (by rw [sM, sA]; omega)
  have HC := Lib.hid hC
  have HNM := Lib.hid hN
  have HB := Lib.hid h
  have HO := Lib.hid hown
  have HR := Lib.hid hrest
  have HSV := Lib.hid hsv
  have HQ := Lib.hid hq
  have hrow := own_type hown
  have HROW := Lib.hid hrow
  have zS := h.lt
  clear h hown hrest hsv hq hrow hN hA hM hC sN sA sM
  go_enter Tryd.func80, Tryd.ntmps80
  go_wp2_with fail
  go_region_law (refine step_append_lies _ rfl (.tmp 14) (.tmp 26) 28 rfl B 43 i0 (.agg #[.string ⟨#[]⟩, .slice none 0 0, .int .i64 0, .int .i64 0]) 4 56 Tryd.underlying28 hi0 hz0 hz1 hz2 rfl (by decide) (.slice pa ps.length pc) ps.length (parCells qs) (by first | (simp [Act.eval]; done) | (simp [Act.eval, Act.put]; done)) ((HO.out.alloc _).drew) ⟨w.heap.size, 0, none⟩ 1 1 [.string C, .slice sa sh.length sc, .int .i64 fi, .int .i64 fo] (by first | (simp [Act.eval]; done) | (simp [Act.eval, Act.put]; done)) rfl (World.news_of_block (cs := #[.string C, .slice sa sh.length sc, .int .i64 fi, .int .i64 fo]) (t := 43) (fr := (0, 0)) (heap_alloc_new w _)) (by simp [Value.oneCell']) (by decide) (by unfold maxLen; omega) (by omega) (by simp; omega) (w.heap.size + 1) (by simp) ?_; intro gg cc w1 hown1 hgrow hat hlt1; have t1' := ((HB.out.alloc (.cells #[.string C, .slice sa sh.length sc, .int .i64 fi, .int .i64 fo] 43)).drew).grown hgrow (fun e => by have := (HROW.out _ e.symm).1; omega); have k1' := (t1'.cell 11).trans (show (stepA f bv iv ov (.slice pa ps.length pc) first (ba nm) bad fin)[11]? = some (.slice pa ps.length pc) from rfl); have f1' := t1'.frozen 11)
  all_goals
    have hnr : ∀ (k : Nat) (cs : Array Value) (fr : Nat × Nat), w.heap[k]? = some (.cells cs 3 fr) → w1.heap[k]? = some (.cells cs 3 fr) := fun k cs fr e => by
      have hk := (Array.getElem?_eq_some_iff.1 e).1
      have e2 : ((w.alloc (.cells #[.string C, .slice sa sh.length sc, .int .i64 fi, .int .i64 fo] 43)).drew).heap[k]? = some (.cells cs 3 fr) := (Below.heap_alloc _ _ _ hk).trans e
      refine (hgrow.block k (by simp; omega) (fun e3 => ?_)).trans e2
      obtain ⟨-, cs', fr', e4⟩ := HROW.out k e3.symm
      rw [e4] at e
      cases e
    have CH : Hid (Chg B S w (w1.setCell ⟨S, 11, none⟩ (.slice (some ⟨gg, 0, none⟩) (ps.length + 1) cc))) := Lib.hid ⟨hgrow.os, hgrow.tape, hgrow.output, Nat.le_trans (by simp) (Nat.le_trans hgrow.size (KeepsWalks.setCell w1 _ _).size), fun k hk hne => by
        rw [Below.heap_setCell _ _ _ k hne]
        refine (hgrow.block k (by simp; omega) (fun e => by have := (HROW.out k e.symm).1; omega)).trans (Below.heap_alloc _ _ _ (by omega)),
      fun k cs fr e => by
        have hne : k ≠ S := by
          rintro rfl
          have hS := HB.out
          unfold Blk at hS
          rw [hS] at e
          cases e
        rw [Below.heap_setCell _ _ _ k hne]
        exact hnr k cs fr e⟩
    refine bodyPost_end (results_none rfl _ _ _) rfl ?_
    refine ⟨some ⟨gg, 0, none⟩, cc, rfl, ?_, ?_, CH.out⟩
    · exact t1'.set_ 11 _
    · refine ParsAt.snoc (sv := .slice sa sh.length sc) (qs := qs) HQ.out rfl (fun q hm => ?_) ?_ ?_
      · exact ownsRow_setCell_below (own_keep (HR.out q hm) (fun k cs fr _ e => hnr k cs fr e)) hS _
      · exact ownsRow_setCell_below (own_keep HSV.out (fun k cs fr _ e => hnr k cs fr e)) hS _
      · refine ownsRow_setCell_below ?_ hS _
        have := hown1
        rw [← HC.out] at this
        exact this
end Go.Proofs.YtgokenbojppnhaaDoor
