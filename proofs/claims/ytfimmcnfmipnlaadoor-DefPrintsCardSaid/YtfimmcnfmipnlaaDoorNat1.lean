/- ref90: NPlus. ref90: NLess. ref90: NTimes. ref90: NOf, NCmp. -/
import Derived.Test.YtfimmcnfmipnlaaDoorP2
import Derived.Test.YtfimmcnfmipnlaaDoorWhole
import Derived.BigQuiet
namespace Go.Proofs.YtfimmcnfmipnlaaDoor
open Go.RowKit
theorem Row.cellAt {k : IntKind} {w : World} {a : Option Addr} {n cap : Nat} {ds : List Int} (h : Row k w (.slice a n cap) ds) (i : Nat) (hi : i < ds.length) :
    ∃ b o, a = some ⟨b, o, none⟩ ∧ w.cell? ⟨b, o + i, none⟩ = some (.int k (ds.getD i 0)) := by
  obtain ⟨a', cap', e, h1, h2, h3⟩ := h
  simp only [Value.slice.injEq] at e
  obtain ⟨rfl, -, -⟩ := e
  obtain ⟨b, o, rfl, hc⟩ := h3 (by intro e; subst e; simp at hi)
  exact ⟨b, o, rfl, hc i hi⟩
theorem val_snoc (B d : Int) : ∀ xs : List Int, val B (xs ++ [d]) = val B xs + d * B ^ xs.length
  | [] => by simp [val]
  | x :: xs => by
    simp only [List.cons_append, val, val_snoc B d xs, List.length_cons]
    rw [Int.mul_add, Int.pow_succ, Int.add_assoc, ← Int.mul_assoc B d, Int.mul_comm B d, Int.mul_assoc d B, Int.mul_comm B (B ^ xs.length)]
theorem val_take_succ (B : Int) (ds : List Int) (k : Nat) : val B (ds.take (k + 1)) = val B (ds.take k) + ds.getD k 0 * B ^ k := by
  rcases Nat.lt_or_ge k ds.length with h | h
  · rw [take_succ_getD ds k h, val_snoc, List.length_take, Nat.min_eq_left (by omega)]
  · have e : ds.getD k 0 = 0 := by rw [List.getD_eq_getElem?_getD, List.getElem?_eq_none h]; rfl
    rw [List.take_of_length_le h, List.take_of_length_le (by omega), e]; simp
theorem getD_bd {ds : List Int} (h : Digs B32 ds) (k : Nat) : 0 ≤ ds.getD k 0 ∧ ds.getD k 0 < 4294967296 := by
  rcases Nat.lt_or_ge k ds.length with h' | h'
  · exact h.at k h'
  · rw [List.getD_eq_getElem?_getD, List.getElem?_eq_none h']; exact ⟨Int.le_refl 0, by decide⟩
theorem Digs.snoc {B d : Int} {ds : List Int} (h : Digs B ds) (h0 : 0 ≤ d) (h1 : d < B) : Digs B (ds ++ [d]) := by
  intro x hx
  rcases List.mem_append.1 hx with hx | hx
  · exact h x hx
  · simp at hx; subst hx; exact ⟨h0, h1⟩
theorem NatAt.mono {w : World} {v : Value} {x : Int} {L L' : Nat} (h : NatAt w v x L) (hl : L ≤ L') : NatAt w v x L' := by
  obtain ⟨ds, h1, h2, h3, h4, h5⟩ := h.is; exact ⟨⟨ds, h1, h2, h3, h4, Nat.le_trans h5 hl⟩⟩
structure SumRel (xs ys : List Int) (k : Nat) (c : Int) (zs : List Int) : Prop where
  len : zs.length = k
  digs : Digs B32 zs
  c0 : 0 ≤ c
  c1 : c ≤ 1
  is : val B32 zs + c * B32 ^ k = val B32 (xs.take k) + val B32 (ys.take k)
theorem SumRel.step {xs ys zs : List Int} {k : Nat} {c : Int} (h : SumRel xs ys k c zs) (hx : Digs B32 xs) (hy : Digs B32 ys) :
    SumRel xs ys (k + 1) ((c + xs.getD k 0 + ys.getD k 0) / 4294967296) (zs ++ [(c + xs.getD k 0 + ys.getD k 0) % 4294967296]) := by
  obtain ⟨x0, x1⟩ := getD_bd hx k
  obtain ⟨y0, y1⟩ := getD_bd hy k
  have c0 := h.c0
  have c1 := h.c1
  refine ⟨by simp [h.len], h.digs.snoc (by omega) (by unfold B32; omega), by omega, by omega, ?_⟩
  rw [val_snoc, val_take_succ, val_take_succ, h.len]
  have e := h.is
  generalize xs.getD k 0 = x at *
  generalize ys.getD k 0 = y at *
  have hs : c + x + y = (c + x + y) % 4294967296 + 4294967296 * ((c + x + y) / 4294967296) := by omega
  generalize (c + x + y) % 4294967296 = r at *
  generalize (c + x + y) / 4294967296 = q at *
  have e2 : q * B32 ^ (k + 1) = (4294967296 * q) * B32 ^ k := by
    rw [Int.pow_succ, Int.mul_comm (B32 ^ k), ← Int.mul_assoc, Int.mul_comm q]; rfl
  have e3 : r * B32 ^ k + (4294967296 * q) * B32 ^ k = c * B32 ^ k + x * B32 ^ k + y * B32 ^ k := by
    rw [← Int.add_mul, ← hs, Int.add_mul, Int.add_mul]
  rw [e2]
  generalize B32 ^ k = p at *
  generalize r * p = rp at *
  generalize 4294967296 * q * p = qp at *
  omega
theorem fin_row {w : World} {base : Nat} {e : TypeId} {v : Value} {n : Nat} {zs : List Int} {s : Int} (h : w.ownsRow base e 1 v (n + 1) (zs.map (Value.int .u32) ++ [.int .u32 (IntKind.u32.wrap s)])) :
    w.ownsRow base e 1 v (n + 1) ((zs ++ [s % 4294967296]).map (Value.int .u32)) := by
  rw [List.map_append]; rw [IntKind.wrap_u32] at h; exact h
end Go.Proofs.YtfimmcnfmipnlaaDoor
namespace Go.Proofs.YtfimmcnfmipnlaaDoor
open Go.RowKit
theorem val_bd {B : Int} (hB : 0 < B) : ∀ ds : List Int, Digs B ds → 0 ≤ val B ds ∧ val B ds < B ^ ds.length
  | [], _ => by simp [val]
  | d :: ds, h => by
    obtain ⟨h1, h2⟩ := h d (by simp)
    obtain ⟨h3, h4⟩ := val_bd hB ds (fun x hx => h x (by simp [hx]))
    simp only [val, List.length_cons, Int.pow_succ]
    have h5 := Int.mul_nonneg (Int.le_of_lt hB) h3
    have h6 := Int.mul_le_mul_of_nonneg_left (show val B ds + 1 ≤ B ^ ds.length by omega) (Int.le_of_lt hB)
    rw [Int.mul_add, Int.mul_one] at h6
    rw [Int.mul_comm _ B]
    omega
theorem val_top {B : Int} (hB : 0 < B) {ds : List Int} (h : Digs B ds) (hn : Neat ds) (h0 : ds ≠ []) : B ^ (ds.length - 1) ≤ val B ds := by
  rcases hn with hn | hn
  · exact absurd hn h0
  · have hl : 0 < ds.length := List.length_pos_iff.2 h0
    have e := val_take_succ B ds (ds.length - 1)
    rw [List.take_of_length_le (by omega)] at e
    have h1 := (val_bd hB (ds.take (ds.length - 1)) (h.take _)).1
    have h2 := h.at (ds.length - 1) (by omega)
    have h3 : (0 : Int) < B ^ (ds.length - 1) := Int.pow_pos hB
    have h4 := Int.mul_le_mul_of_nonneg_right (show 1 ≤ ds.getD (ds.length - 1) 0 by omega) (Int.le_of_lt h3)
    rw [Int.one_mul] at h4
    omega
theorem len_le {B : Int} (hB : 0 < B) {xs ys : List Int} (hx : Digs B xs) (hy : Digs B ys) (ny : Neat ys) (h : val B ys ≤ val B xs) : ys.length ≤ xs.length := by
  by_cases h0 : ys = []
  · subst h0; simp
  · have h1 := (val_bd hB xs hx).2
    have h2 := val_top hB hy ny h0
    rcases Nat.lt_or_ge xs.length ys.length with h3 | h3
    · have := pow_mono' (show 1 ≤ B by omega) (show xs.length ≤ ys.length - 1 by omega)
      omega
    · exact h3
structure LessRel (xs ys : List Int) (k : Nat) (c : Int) (zs : List Int) : Prop where
  len : zs.length = k
  digs : Digs B32 zs
  c0 : -1 ≤ c
  c1 : c ≤ 0
  is : val B32 zs + c * B32 ^ k = val B32 (xs.take k) - val B32 (ys.take k)
theorem LessRel.step {xs ys zs : List Int} {k : Nat} {c : Int} (h : LessRel xs ys k c zs) (hx : Digs B32 xs) (hy : Digs B32 ys) :
    LessRel xs ys (k + 1) ((c + xs.getD k 0 - ys.getD k 0) / 4294967296) (zs ++ [(c + xs.getD k 0 - ys.getD k 0) % 4294967296]) := by
  obtain ⟨x0, x1⟩ := getD_bd hx k
  obtain ⟨y0, y1⟩ := getD_bd hy k
  have c0 := h.c0
  have c1 := h.c1
  refine ⟨by simp [h.len], h.digs.snoc (by omega) (by unfold B32; omega), by omega, by omega, ?_⟩
  rw [val_snoc, val_take_succ, val_take_succ, h.len]
  have e := h.is
  generalize xs.getD k 0 = x at *
  generalize ys.getD k 0 = y at *
  have hs : c + x - y = (c + x - y) % 4294967296 + 4294967296 * ((c + x - y) / 4294967296) := by omega
  generalize (c + x - y) % 4294967296 = r at *
  generalize (c + x - y) / 4294967296 = q at *
  have e2 : q * B32 ^ (k + 1) = (4294967296 * q) * B32 ^ k := by
    rw [Int.pow_succ, Int.mul_comm (B32 ^ k), ← Int.mul_assoc, Int.mul_comm q]; rfl
  have e3 : r * B32 ^ k + (4294967296 * q) * B32 ^ k = c * B32 ^ k + x * B32 ^ k - y * B32 ^ k := by
    rw [← Int.add_mul, ← hs, Int.sub_mul, Int.add_mul]
  rw [e2]
  generalize B32 ^ k = p at *
  generalize r * p = rp at *
  generalize 4294967296 * q * p = qp at *
  omega
theorem fin_row64 {w : World} {base : Nat} {e : TypeId} {v : Value} {n : Nat} {zs : List Int} {s : Int} (h : w.ownsRow base e 1 v (n + 1) (zs.map (Value.int .u32) ++ [.int .u32 (IntKind.u32.wrap (IntKind.u64.wrap s))])) :
    w.ownsRow base e 1 v (n + 1) ((zs ++ [s % 4294967296]).map (Value.int .u32)) := by
  have e : IntKind.u32.wrap (IntKind.u64.wrap s) = s % 4294967296 := by rw [IntKind.wrap_u32, IntKind.wrap_u64]; omega
  rw [List.map_append]; rw [e] at h; exact h
end Go.Proofs.YtfimmcnfmipnlaaDoor
namespace Go.Proofs.YtfimmcnfmipnlaaDoor
open Go.RowKit
theorem val_set (B d : Int) : ∀ (ds : List Int) (i : Nat), i < ds.length → val B (ds.set i d) = val B ds + (d - ds.getD i 0) * B ^ i
  | [], i, h => by simp at h
  | a :: ds, 0, _ => by simp [val]; omega
  | a :: ds, i + 1, h => by
    have e := val_set B d ds i (by simpa using h)
    simp only [List.set_cons_succ, val, e, List.getD_cons_succ, Int.pow_succ]
    rw [Int.mul_add, Int.add_assoc, Int.mul_comm (B ^ i) B, Int.mul_left_comm B (d - ds.getD i 0)]
theorem Digs.set {B d : Int} {ds : List Int} (h : Digs B ds) (i : Nat) (h0 : 0 ≤ d) (h1 : d < B) : Digs B (ds.set i d) := by
  intro x hx
  rcases List.mem_or_eq_of_mem_set hx with hx | rfl
  · exact h x hx
  · exact ⟨h0, h1⟩
theorem getD_set_same (ds : List Int) (i : Nat) (d : Int) (h : i < ds.length) : (ds.set i d).getD i 0 = d := by
  simp [List.getD, h]
theorem getD_set_ne (ds : List Int) (i j : Nat) (d : Int) (h : i ≠ j) : (ds.set i d).getD j 0 = ds.getD j 0 := by
  simp [List.getD, h]
theorem mul_bd32 {x y : Int} (x0 : 0 ≤ x) (x1 : x < 4294967296) (y0 : 0 ≤ y) (y1 : y < 4294967296) : 0 ≤ x * y ∧ x * y ≤ 18446744065119617025 := by
  refine ⟨Int.mul_nonneg x0 y0, ?_⟩
  have a := Int.mul_le_mul_of_nonneg_right (show x ≤ 4294967295 by omega) y0
  omega
/-- Of the first i digits of x each has been taken times y. -/
structure OutRel (xs ys : List Int) (i : Nat) (zs : List Int) : Prop where
  len : zs.length = xs.length + ys.length
  digs : Digs B32 zs
  zero : ∀ j, i + ys.length ≤ j → zs.getD j 0 = 0
  is : val B32 zs = val B32 (xs.take i) * val B32 ys
/-- And of the next one the first k digits of y. -/
structure InRel (xs ys z0 : List Int) (i k : Nat) (c : Int) (zs : List Int) : Prop where
  len : zs.length = xs.length + ys.length
  digs : Digs B32 zs
  c0 : 0 ≤ c
  c1 : c < 4294967296
  same : ∀ j, i + k ≤ j → zs.getD j 0 = z0.getD j 0
  is : val B32 zs + c * B32 ^ (i + k) = val B32 z0 + xs.getD i 0 * val B32 (ys.take k) * B32 ^ i
theorem InRel.start {xs ys z0 : List Int} {i : Nat} (h : OutRel xs ys i z0) : InRel xs ys z0 i 0 0 z0 :=
  ⟨h.len, h.digs, by omega, by omega, fun j _ => rfl, by simp [val]⟩
theorem InRel.step {xs ys z0 zs : List Int} {i k : Nat} {c : Int} (h : InRel xs ys z0 i k c zs) (hi : i < xs.length) (hk : k < ys.length) (hx : Digs B32 xs) (hy : Digs B32 ys) :
    InRel xs ys z0 i (k + 1) ((c + zs.getD (i + k) 0 + xs.getD i 0 * ys.getD k 0) / 4294967296) (zs.set (i + k) ((c + zs.getD (i + k) 0 + xs.getD i 0 * ys.getD k 0) % 4294967296)) := by
  obtain ⟨x0, x1⟩ := getD_bd hx i
  obtain ⟨y0, y1⟩ := getD_bd hy k
  obtain ⟨z0', z1⟩ := getD_bd h.digs (i + k)
  obtain ⟨p0, p1⟩ := mul_bd32 x0 x1 y0 y1
  have c0 := h.c0
  have c1 := h.c1
  refine ⟨by simp [h.len], h.digs.set _ (by omega) (by unfold B32; omega), by omega, by omega, fun j hj => ?_, ?_⟩
  · rw [getD_set_ne _ _ _ _ (by omega)]; exact h.same j (by omega)
  · rw [val_set _ _ _ _ (by rw [h.len]; omega), val_take_succ]
    have e := h.is
    generalize zs.getD (i + k) 0 = z at *
    generalize xs.getD i 0 = x at *
    generalize ys.getD k 0 = y at *
    have e1 : x * (val B32 (ys.take k) + y * B32 ^ k) * B32 ^ i = x * val B32 (ys.take k) * B32 ^ i + x * y * B32 ^ (i + k) := by
      rw [Int.mul_add, Int.add_mul, ← Int.mul_assoc x y, Int.mul_assoc (x * y), ← Int.pow_add, Nat.add_comm k i]
    have hs : c + z + x * y = (c + z + x * y) % 4294967296 + 4294967296 * ((c + z + x * y) / 4294967296) := by omega
    rw [e1]
    generalize x * val B32 (ys.take k) * B32 ^ i = t at *
    generalize x * y = xy at *
    generalize (c + z + xy) % 4294967296 = r at *
    generalize (c + z + xy) / 4294967296 = q at *
    have e2 : q * B32 ^ (i + (k + 1)) = (4294967296 * q) * B32 ^ (i + k) := by
      rw [← Nat.add_assoc, Int.pow_succ, Int.mul_comm (B32 ^ (i + k)), ← Int.mul_assoc, Int.mul_comm q]; rfl
    have e3 : r * B32 ^ (i + k) + (4294967296 * q) * B32 ^ (i + k) = c * B32 ^ (i + k) + z * B32 ^ (i + k) + xy * B32 ^ (i + k) := by
      rw [← Int.add_mul, ← hs, Int.add_mul, Int.add_mul]
    rw [e2, Int.sub_mul]
    generalize B32 ^ (i + k) = p at *
    generalize r * p = rp at *
    generalize 4294967296 * q * p = qp at *
    generalize z * p = zp at *
    generalize c * p = cp at *
    generalize xy * p = xyp at *
    omega
theorem InRel.done {xs ys z0 zs : List Int} {i : Nat} {c : Int} (h : InRel xs ys z0 i ys.length c zs) (h0 : OutRel xs ys i z0) (hi : i < xs.length) :
    OutRel xs ys (i + 1) (zs.set (i + ys.length) c) := by
  have e0 : zs.getD (i + ys.length) 0 = 0 := by rw [h.same _ (Nat.le_refl _)]; exact h0.zero _ (Nat.le_refl _)
  refine ⟨by simp [h.len], h.digs.set _ h.c0 h.c1, fun j hj => ?_, ?_⟩
  · rw [getD_set_ne _ _ _ _ (by omega), h.same _ (by omega)]; exact h0.zero _ (by omega)
  · rw [val_set _ _ _ _ (by rw [h.len]; omega), e0, Int.sub_zero, h.is, h0.is, val_take_succ, List.take_length, Int.add_mul, Int.mul_assoc, Int.mul_assoc, Int.mul_comm (val B32 ys)]
theorem out_start (xs ys : List Int) : OutRel xs ys 0 (List.replicate (xs.length + ys.length) 0) := by
  have z : ∀ j, (List.replicate (xs.length + ys.length) (0 : Int)).getD j 0 = 0 := fun j => by
    rw [List.getD_eq_getElem?_getD, List.getElem?_replicate]; split <;> rfl
  refine ⟨by simp, fun d hd => ?_, fun j _ => z j, ?_⟩
  · have := List.eq_of_mem_replicate hd; subst this; exact ⟨Int.le_refl _, by decide⟩
  · rw [val_zeros _ _ (fun j _ => z j)]; simp [val]
theorem own_drewN {w : World} {base : Nat} {e : TypeId} {size : Nat} {v : Value} {n : Nat} {xs : List Value} (h : w.ownsRow base e size v n xs) (m : Nat) : (w.drewN m).ownsRow base e size v n xs := h
theorem own_set {w : World} {base : Nat} {e : TypeId} {g n cap : Nat} {zs : List Int} {k : IntKind} (h : w.ownsRow base e 1 (.slice (some ⟨g, 0, none⟩) n cap) n (zs.map (Value.int k))) (j : Nat) (d : Int) :
    (w.setCell ⟨g, j, none⟩ (.int k d)).ownsRow base e 1 (.slice (some ⟨g, 0, none⟩) n cap) n ((zs.set j d).map (Value.int k)) := by
  rw [List.map_set]; exact (h.stored j _).1
theorem owns_at {w : World} {base : Nat} {e : TypeId} {g n cap : Nat} {zs : List Int} {k : IntKind} (h : w.ownsRow base e 1 (.slice (some ⟨g, 0, none⟩) n cap) n (zs.map (Value.int k))) (j : Nat) (hj : j < n) :
    w.cell? ⟨g, j, none⟩ = some (.int k (zs.getD j 0)) := by
  have hl : zs.length = n := by simpa using h.1
  rw [h.cellAt j (by omega), List.getElem?_map, List.getD_eq_getElem?_getD, List.getElem?_eq_getElem (by omega)]
  rfl
end Go.Proofs.YtfimmcnfmipnlaaDoor
namespace Go.Proofs.YtfimmcnfmipnlaaDoor
open Go.RowKit
theorem NatAt.nn {w : World} {v : Value} {x : Int} {L : Nat} (h : NatAt w v x L) : 0 ≤ x := by
  obtain ⟨ds, h1, h2, h3, rfl, h5⟩ := h.is; exact (val_bd (by decide) ds h2).1
theorem NatAt.of_cut {w : World} {v : Value} {ds : List Int} {n L : Nat} (hr : Row .u64 w v (ds.take n)) (hc : Cut ds n) (hd : Digs B64 ds) (hl : ds.length ≤ L) : NatAt w v (val B64 ds) L :=
  ⟨⟨ds.take n, hr, hd.take n, hc.neat, hc.val _, by rw [List.length_take]; omega⟩⟩
theorem NOf_new (n : Int) (w : World) (h0 : 0 ≤ n) (h1 : n < 18446744073709551616) :
    Calls Tryd.prog 58 #[.int .u64 n] w fun e w' => ∃ v, e = .returned v ∧ Ext w w' ∧ NatAt w' v n 1 ∧ New w v := by
  have hr : Row .u64 (w.alloc (.cells #[.int .u64 n] 95)) (.slice (some ⟨w.heap.size, 0, none⟩) 1 1) [n] := by
    refine ⟨_, 1, rfl, Nat.le_refl _, by unfold maxLen; omega, fun _ => ⟨_, 0, rfl, fun i hi => ?_⟩⟩
    obtain rfl : i = 0 := by simpa using hi
    simp
  have HC := Lib.hid (trim_new hr)
  clear hr
  go_enter Tryd.func58, Tryd.ntmps58
  go_wp2_with fail
  refine HC.out.mono ?_
  rintro e w' ⟨v3, n3, hcut, rfl, hrow3, rfl, hob⟩
  have HN : Hid (New w v3) := Lib.hid (fun b hb => by rw [hob] at hb; simp [Value.ownBlock] at hb; omega)
  have h := NatAt.of_cut hrow3 hcut (L := 1) (fun d hd => by simp at hd; subst hd; exact ⟨h0, h1⟩) (by simp)
  rw [show val B64 [n] = n by simp [val]] at h
  have H := Lib.hid h
  clear h hrow3 hcut hob
  go_wp2
  go_ret
  exact ⟨_, rfl, (by repeat (first | with_reducible exact Ext.refl _ | with_reducible apply Ext.drew | with_reducible apply Ext.drewN | with_reducible apply Ext.alloc | ((with_reducible refine Ext.setCell ?_ ?_ _); rotate_left; focus (first | (simp; done) | (simp; omega) | omega)) | with_reducible refine Ext.tr ?_ x1 | with_reducible refine Ext.tr ?_ hx | with_reducible assumption)), H.out, HN.out⟩
theorem NOf_any (n : Int) (w : World) (h0 : 0 ≤ n) (h1 : n < 18446744073709551616) :
    Calls Tryd.prog 58 #[.int .u64 n] w fun e w' => ∃ v, e = .returned v ∧ Ext w w' ∧ NatAt w' v n 1 :=
  (NOf_new n w h0 h1).mono (by rintro e w' ⟨v', h1, h2, h3, -⟩; exact ⟨v', h1, h2, h3⟩)
/-- -1, 0, 1. -/
def cmpI (x y : Int) : Int := if x < y then -1 else if y < x then 1 else 0
theorem cmpI_lt {x y : Int} (h : x < y) : cmpI x y = -1 := by unfold cmpI; rw [if_pos h]
theorem cmpI_gt {x y : Int} (h : y < x) : cmpI x y = 1 := by unfold cmpI; rw [if_neg (by omega), if_pos h]
theorem cmpI_eq (x : Int) : cmpI x x = 0 := by unfold cmpI; rw [if_neg (by omega), if_neg (by omega)]
theorem val_split (B : Int) : ∀ (ds : List Int) (j : Nat), j ≤ ds.length → val B ds = val B (ds.take j) + B ^ j * val B (ds.drop j)
  | ds, 0, _ => by simp [val]
  | [], j + 1, h => by simp at h
  | d :: ds, j + 1, h => by
    simp only [List.take_succ_cons, List.drop_succ_cons, val]
    rw [val_split B ds j (by simpa using h), Int.pow_succ, Int.mul_add, Int.mul_comm (B ^ j) B, Int.mul_assoc, Int.add_assoc]
theorem val_lt {B : Int} (hB : 0 < B) {xs ys : List Int} (hx : Digs B xs) (hy : Digs B ys) (hl : xs.length = ys.length) (j : Nat) (hj : j < xs.length)
    (he : ∀ i, j + 1 ≤ i → i < xs.length → xs.getD i 0 = ys.getD i 0) (h : xs.getD j 0 < ys.getD j 0) : val B xs < val B ys := by
  have hd : xs.drop (j + 1) = ys.drop (j + 1) := by
    apply List.ext_getElem (by simp [hl])
    intro i h1 h2
    have := he (j + 1 + i) (by omega) (by simp at h1; omega)
    simp at h1 h2
    rw [List.getD_eq_getElem?_getD, List.getD_eq_getElem?_getD, List.getElem?_eq_getElem (by omega), List.getElem?_eq_getElem (by omega)] at this
    simpa using this
  rw [val_split B xs (j + 1) (by omega), val_split B ys (j + 1) (by omega), hd, val_take_succ, val_take_succ]
  obtain ⟨a0, a1⟩ := val_bd hB (xs.take j) (hx.take j)
  obtain ⟨b0, b1⟩ := val_bd hB (ys.take j) (hy.take j)
  rw [List.length_take, Nat.min_eq_left (by omega)] at a1
  have h3 : (0 : Int) < B ^ j := Int.pow_pos hB
  have h4 := Int.mul_le_mul_of_nonneg_right (show xs.getD j 0 + 1 ≤ ys.getD j 0 by omega) (Int.le_of_lt h3)
  rw [Int.add_mul, Int.one_mul] at h4
  omega
theorem val_len_lt {B : Int} (hB : 0 < B) {xs ys : List Int} (hx : Digs B xs) (hy : Digs B ys) (ny : Neat ys) (h : xs.length < ys.length) : val B xs < val B ys := by
  rcases Int.lt_or_le (val B xs) (val B ys) with h' | h'
  · exact h'
  · have := len_le hB hx hy ny h'; omega
theorem ext_getD {xs ys : List Int} (hl : xs.length = ys.length) (h : ∀ j, j < xs.length → xs.getD j 0 = ys.getD j 0) : xs = ys := by
  apply List.ext_getElem hl
  intro i h1 h2
  have := h i h1
  rw [List.getD_eq_getElem?_getD, List.getD_eq_getElem?_getD, List.getElem?_eq_getElem h1, List.getElem?_eq_getElem h2] at this
  simpa using this
end Go.Proofs.YtfimmcnfmipnlaaDoor
