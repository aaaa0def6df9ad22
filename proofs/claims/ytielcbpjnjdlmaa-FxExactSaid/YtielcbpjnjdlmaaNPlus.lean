/- ref90: NPlus. -/
import Derived.Test.YtielcbpjnjdlmaaWhole
namespace Go.Proofs.Ytielcbpjnjdlmaa
open Go.RowKit
theorem Row.cellAt {k : IntKind} {w : World} {a : Option Addr} {n cap : Nat} {ds : List Int} (h : Row k w (.slice a n cap) ds) (i : Nat) (hi : i < ds.length) :
    ∃ b o, a = some ⟨b, o, none⟩ ∧ w.cell? ⟨b, o + i, none⟩ = some (.int k (ds.getD i 0)) := by
  obtain ⟨a', cap', e, h1, h2, h3⟩ := h
  simp only [Value.slice.injEq] at e
  obtain ⟨rfl, -, -⟩ := e
  obtain ⟨b, o, rfl, hc⟩ := h3 (by intro e; subst e; simp at hi)
  exact ⟨b, o, rfl, hc i hi⟩
theorem val_snoc (B d : Int) : ∀ xs : List Int, val B (xs ++ [d]) = val B xs + d * B ^ xs.length
  | [] => by simp [val]
  | x :: xs => by
    simp only [List.cons_append, val, val_snoc B d xs, List.length_cons]
    rw [Int.mul_add, Int.pow_succ, Int.add_assoc, ← Int.mul_assoc B d, Int.mul_comm B d, Int.mul_assoc d B, Int.mul_comm B (B ^ xs.length)]
theorem val_take_succ (B : Int) (ds : List Int) (k : Nat) : val B (ds.take (k + 1)) = val B (ds.take k) + ds.getD k 0 * B ^ k := by
  rcases Nat.lt_or_ge k ds.length with h | h
  · rw [take_succ_getD ds k h, val_snoc, List.length_take, Nat.min_eq_left (by omega)]
  · have e : ds.getD k 0 = 0 := by rw [List.getD_eq_getElem?_getD, List.getElem?_eq_none h]; rfl
    rw [List.take_of_length_le h, List.take_of_length_le (by omega), e]; simp
theorem getD_bd {ds : List Int} (h : Digs B32 ds) (k : Nat) : 0 ≤ ds.getD k 0 ∧ ds.getD k 0 < 4294967296 := by
  rcases Nat.lt_or_ge k ds.length with h' | h'
  · exact h.at k h'
  · rw [List.getD_eq_getElem?_getD, List.getElem?_eq_none h']; exact ⟨Int.le_refl 0, by decide⟩
theorem Digs.snoc {B d : Int} {ds : List Int} (h : Digs B ds) (h0 : 0 ≤ d) (h1 : d < B) : Digs B (ds ++ [d]) := by
  intro x hx
  rcases List.mem_append.1 hx with hx | hx
  · exact h x hx
  · simp at hx; subst hx; exact ⟨h0, h1⟩
theorem NatAt.mono {w : World} {v : Value} {x : Int} {L L' : Nat} (h : NatAt w v x L) (hl : L ≤ L') : NatAt w v x L' := by
  obtain ⟨ds, h1, h2, h3, h4, h5⟩ := h.is; exact ⟨⟨ds, h1, h2, h3, h4, Nat.le_trans h5 hl⟩⟩
structure SumRel (xs ys : List Int) (k : Nat) (c : Int) (zs : List Int) : Prop where
  len : zs.length = k
  digs : Digs B32 zs
  c0 : 0 ≤ c
  c1 : c ≤ 1
  is : val B32 zs + c * B32 ^ k = val B32 (xs.take k) + val B32 (ys.take k)
theorem SumRel.step {xs ys zs : List Int} {k : Nat} {c : Int} (h : SumRel xs ys k c zs) (hx : Digs B32 xs) (hy : Digs B32 ys) :
    SumRel xs ys (k + 1) ((c + xs.getD k 0 + ys.getD k 0) / 4294967296) (zs ++ [(c + xs.getD k 0 + ys.getD k 0) % 4294967296]) := by
  obtain ⟨x0, x1⟩ := getD_bd hx k
  obtain ⟨y0, y1⟩ := getD_bd hy k
  have c0 := h.c0
  have c1 := h.c1
  refine ⟨by simp [h.len], h.digs.snoc (by omega) (by unfold B32; omega), by omega, by omega, ?_⟩
  rw [val_snoc, val_take_succ, val_take_succ, h.len]
  have e := h.is
  generalize xs.getD k 0 = x at *
  generalize ys.getD k 0 = y at *
  have hs : c + x + y = (c + x + y) % 4294967296 + 4294967296 * ((c + x + y) / 4294967296) := by omega
  generalize (c + x + y) % 4294967296 = r at *
  generalize (c + x + y) / 4294967296 = q at *
  have e2 : q * B32 ^ (k + 1) = (4294967296 * q) * B32 ^ k := by
    rw [Int.pow_succ, Int.mul_comm (B32 ^ k), ← Int.mul_assoc, Int.mul_comm q]; rfl
  have e3 : r * B32 ^ k + (4294967296 * q) * B32 ^ k = c * B32 ^ k + x * B32 ^ k + y * B32 ^ k := by
    rw [← Int.add_mul, ← hs, Int.add_mul, Int.add_mul]
  rw [e2]
  generalize B32 ^ k = p at *
  generalize r * p = rp at *
  generalize 4294967296 * q * p = qp at *
  omega
theorem fin_row {w : World} {base : Nat} {e : TypeId} {v : Value} {n : Nat} {zs : List Int} {s : Int} (h : w.ownsRow base e 1 v (n + 1) (zs.map (Value.int .u32) ++ [.int .u32 (IntKind.u32.wrap s)])) :
    w.ownsRow base e 1 v (n + 1) ((zs ++ [s % 4294967296]).map (Value.int .u32)) := by
  rw [List.map_append]; rw [IntKind.wrap_u32] at h; exact h
set_option maxHeartbeats 2000000 in
set_option maxRecDepth 100000 in
theorem NPlus_new {m1 m2 : Value} {x y : Int} {L : Nat} {w : World} (hX : NatAt w m1 x L) (hY : NatAt w m2 y L) (hL : L ≤ 400000) :
    Calls Try.prog 144 #[m1, m2] w fun e w' => ∃ v, e = .returned v ∧ Ext w w' ∧ NatAt w' v (x + y) (L + 1) ∧ New w v := by
  obtain ⟨i0, hi0, hz0, hz1, hz2⟩ := info_parts info32
  go_enter Try.func144, Try.ntmps144
  go_wp2_with fail
  refine (halves_any hX (by omega)).mono ?_
  rintro e v1 ⟨r1, rfl, x1, hx1⟩
  go_wp2_with fail
  refine (halves_any (hY.ext x1) (by omega)).mono ?_
  rintro e v2 ⟨r2, rfl, x2, hy1⟩
  obtain ⟨xs, ⟨ax, capx, rfl, hx2⟩, dX, nX, rfl, lX⟩ := (hx1.ext x2).is
  obtain ⟨ys, ⟨ay, capy, rfl, hy2⟩, dY, nY, rfl, lY⟩ := hy1.is
  have rx' : Row .u32 v2 (.slice ax xs.length capx) xs := ⟨ax, capx, rfl, hx2⟩
  have RX := Lib.hid rx'
  clear rx'
  have ry' : Row .u32 v2 (.slice ay ys.length capy) ys := ⟨ay, capy, rfl, hy2⟩
  have RY := Lib.hid ry'
  clear ry'
  have x12 := x1.tr x2
  clear hx1 hy1 hx2 hy2 nX nY hX hY x1 x2
  go_wp2_with fail
  go_loopw [7, 8, 9] (fun l c i wr => ∃ (k : Nat) (ci : Int) (zs : List Int), k ≤ max xs.length ys.length ∧ i = .int .i64 k ∧ c = .int .u64 ci ∧ SumRel xs ys k ci zs ∧ wr.ownsRow v2.heap.size 201 1 l k (zs.map (Value.int .u32)) ∧ Ext v2 wr) (fun _ _ i _ => max xs.length ys.length - (intOf i).toNat)
  case atStart => exact ⟨0, 0, [], Nat.zero_le _, rfl, rfl, ⟨rfl, fun d hd => absurd hd (by simp), by omega, by omega, by simp [val]⟩, World.ownsRow_nil _ _ _ _, Ext.refl _⟩
  case round =>
    obtain ⟨k, ci, zs, hk, rfl, rfl, hS, hown, hext⟩ := hrel
    have c0 := hS.c0
    have c1 := hS.c1
    have hrow := hown.lt
    have hbase := hext.size
    rcases Nat.lt_or_ge k (max xs.length ys.length) with hlt | hge
    · have hn2 : k + 1 ≤ maxLen := by unfold maxLen; omega
      have hn3 : (k + 1) * 4 ≤ 140737488355328 := by omega
      obtain ⟨d0, d1⟩ := getD_bd dX k
      obtain ⟨e0, e1⟩ := getD_bd dY k
      have SR := Lib.hid (hS.step dX dY)
      clear hS
      rcases Nat.lt_or_ge k xs.length with hx | hx <;> rcases Nat.lt_or_ge k ys.length with hy | hy
      · have SQ := SR
        have nx : (k : Int) < (xs.length : Int) := by omega
        obtain ⟨bx, ox, rfl, cx1⟩ := RX.out.cellAt k hx
        have cx2 := hext.cell cx1
        clear cx1
        have ny : (k : Int) < (ys.length : Int) := by omega
        obtain ⟨by', oy, rfl, cy1⟩ := RY.out.cellAt k hy
        have cy2 := hext.cell cy1
        clear cy1
        clear SQ
        generalize xs.getD k 0 = xd at *
        generalize ys.getD k 0 = yd at *
        go_wp2_with (at_builtin; refine wpList_append_own _ rfl _ _ 199 rfl v2.heap.size 201 i0 _ 1 4 Try.underlying199 hi0 hz0 hz1 hz2 rfl (by decide) _ _ _ rfl (hown.alloc _) ⟨wr.heap.size, 0, none⟩ 1 1 [.int .u32 (IntKind.u32.wrap (ci + xd + yd))] rfl rfl (news_1 _ _ _) (one_1 _ _) hn2 hn3 (by simp; omega) ?_; intro v' w1 hown1 hgrow _)
        have X : Ext v2 w1 := Ext.grown (hext.alloc _) hgrow (fun r hr => (hrow r hr).1)
        clear hown hgrow hrow
        go_wp2_with fail
        exact ⟨⟨k + 1, _, _, by omega, by go_num, rfl, SR.out, fin_row hown1, X⟩, by simp [intOf]; omega⟩
      · have ey : ys.getD k 0 = 0 := by rw [List.getD_eq_getElem?_getD, List.getElem?_eq_none hy]; rfl
        have nx : (k : Int) < (xs.length : Int) := by omega
        obtain ⟨bx, ox, rfl, cx1⟩ := RX.out.cellAt k hx
        have cx2 := hext.cell cx1
        clear cx1
        have ny : (ys.length : Int) ≤ (k : Int) := by omega
        rw [ey] at SR
        clear ey
        generalize xs.getD k 0 = xd at *
        have SR' := SR.out
        rw [Int.add_zero] at SR'
        have SR := Lib.hid SR'
        clear SR'
        go_wp2_with (at_builtin; refine wpList_append_own _ rfl _ _ 199 rfl v2.heap.size 201 i0 _ 1 4 Try.underlying199 hi0 hz0 hz1 hz2 rfl (by decide) _ _ _ rfl (hown.alloc _) ⟨wr.heap.size, 0, none⟩ 1 1 [.int .u32 (IntKind.u32.wrap (ci + xd))] rfl rfl (news_1 _ _ _) (one_1 _ _) hn2 hn3 (by simp; omega) ?_; intro v' w1 hown1 hgrow _)
        have X : Ext v2 w1 := Ext.grown (hext.alloc _) hgrow (fun r hr => (hrow r hr).1)
        clear hown hgrow hrow
        go_wp2_with fail
        exact ⟨⟨k + 1, _, _, by omega, by go_num, rfl, SR.out, fin_row hown1, X⟩, by simp [intOf]; omega⟩
      · have ex : xs.getD k 0 = 0 := by rw [List.getD_eq_getElem?_getD, List.getElem?_eq_none hx]; rfl
        have nx : (xs.length : Int) ≤ (k : Int) := by omega
        have ny : (k : Int) < (ys.length : Int) := by omega
        obtain ⟨by', oy, rfl, cy1⟩ := RY.out.cellAt k hy
        have cy2 := hext.cell cy1
        clear cy1
        have SR' := SR.out
        rw [ex, Int.add_zero] at SR'
        clear ex SR
        generalize ys.getD k 0 = yd at *
        have SR := Lib.hid SR'
        clear SR'
        go_wp2_with (at_builtin; refine wpList_append_own _ rfl _ _ 199 rfl v2.heap.size 201 i0 _ 1 4 Try.underlying199 hi0 hz0 hz1 hz2 rfl (by decide) _ _ _ rfl (hown.alloc _) ⟨wr.heap.size, 0, none⟩ 1 1 [.int .u32 (IntKind.u32.wrap (ci + yd))] rfl rfl (news_1 _ _ _) (one_1 _ _) hn2 hn3 (by simp; omega) ?_; intro v' w1 hown1 hgrow _)
        have X : Ext v2 w1 := Ext.grown (hext.alloc _) hgrow (fun r hr => (hrow r hr).1)
        clear hown hgrow hrow
        go_wp2_with fail
        exact ⟨⟨k + 1, _, _, by omega, by go_num, rfl, SR.out, fin_row hown1, X⟩, by simp [intOf]; omega⟩
      · omega
    · have hn2 : k + 1 ≤ maxLen := by unfold maxLen; omega
      have hn3 : (k + 1) * 4 ≤ 140737488355328 := by omega
      have hlen := hS.len
      have hval : val B32 (zs ++ [ci]) = val B32 xs + val B32 ys := by
        have e := hS.is
        rw [List.take_of_length_le (by omega), List.take_of_length_le (by omega)] at e
        rw [val_snoc, hS.len]; exact e
      have hdig : Digs B32 (zs ++ [ci]) := hS.digs.snoc (by omega) (by unfold B32; omega)
      have hk2 : zs.length + 1 ≤ 800001 := by omega
      have hk3 : zs.length + 1 ≤ 2 * L + 1 := by omega
      have HV := Lib.hid hval
      have HD := Lib.hid hdig
      have HK := Lib.hid hk2
      have HK3 := Lib.hid hk3
      have nx : xs.length ≤ k := by omega
      have ny : ys.length ≤ k := by omega
      clear hS hlen hval hdig hk2 hk3
      go_wp2_with (at_builtin; refine wpList_append_own _ rfl _ _ 199 rfl v2.heap.size 201 i0 _ 1 4 Try.underlying199 hi0 hz0 hz1 hz2 rfl (by decide) _ _ _ rfl (hown.alloc _) ⟨wr.heap.size, 0, none⟩ 1 1 [.int .u32 ci] rfl rfl (news_1 _ _ _) (one_1 _ _) hn2 hn3 (by simp; omega) ?_; intro v' w1 hown1 hgrow _)
      have X : Ext v2 w1 := Ext.grown (hext.alloc _) hgrow (fun r hr => (hrow r hr).1)
      have HR := Lib.hid (Row.of_owns (xs := zs ++ [ci]) (by rw [List.map_append]; exact hown1)).1
      clear hown hown1 hgrow hrow
      go_wp2_with fail
      refine (cut_any HR.out).mono ?_
      rintro e w' ⟨v3, n3, hcut, rfl, hrow3, rfl⟩
      have HC := Lib.hid hcut
      clear hcut
      go_wp2_with fail
      refine (whole_new hrow3 (HD.out.take n3) (by rw [List.length_take, List.length_append]; have := HK.out; simp; omega)).mono ?_
      rintro e w' ⟨v4, rfl, x4, h4, hnew⟩
      have HN : Hid (New w v4) := Lib.hid (fun b hb => Nat.le_trans (x12.tr X).size (hnew b hb))
      clear hnew
      rw [HC.out.val, HV.out] at h4
      have H4 := Lib.hid h4
      clear h4 hrow3
      go_wp2
      go_ret
      exact ⟨_, rfl, (x12.tr X).tr x4, H4.out.mono (by rw [List.length_take, List.length_append]; have := HK3.out; simp; omega), HN.out⟩
theorem NPlus_any {m1 m2 : Value} {x y : Int} {L : Nat} {w : World} (hX : NatAt w m1 x L) (hY : NatAt w m2 y L) (hL : L ≤ 400000) :
    Calls Try.prog 144 #[m1, m2] w fun e w' => ∃ v, e = .returned v ∧ Ext w w' ∧ NatAt w' v (x + y) (L + 1) :=
  (NPlus_new hX hY hL).mono (by rintro e w' ⟨v', h1, h2, h3, -⟩; exact ⟨v', h1, h2, h3⟩)
end Go.Proofs.Ytielcbpjnjdlmaa
