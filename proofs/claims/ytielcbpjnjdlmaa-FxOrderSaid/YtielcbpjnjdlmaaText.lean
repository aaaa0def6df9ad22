/- fx.Text: its first byte tells the sign. -/
import Derived.Test.YtielcbpjnjdlmaaWText
import Derived.Test.YtielcbpjnjdlmaaDigits
import Derived.Test.YtielcbpjnjdlmaaReckon
namespace Go.Proofs.Ytielcbpjnjdlmaa
open Go.RowKit Go.Shelf
attribute [local go_sem] Oper.semAt_some
theorem digits_any (p f : Int) (w : World) :
    Calls Try.prog 123 #[.int .u64 p, .int .i64 f] w fun e w' => e = .returned (.func (.func 165) #[] #[.pointer (some ⟨w.heap.size, 0, none⟩), .pointer (some ⟨w.heap.size + 1, 0, none⟩)]) ∧ w' = (w.alloc (.cells #[.int .u64 p] 24)).alloc (.cells #[.int .i64 f] 3) := by
  go_enter Try.func123, Try.ntmps123
  go_wp2
  go_ret
  exact ⟨rfl, rfl⟩
theorem Kept2.trans {a b : Nat} {X Y Z : World} (h : Kept2 a b X Y) (k : Kept2 a b Y Z) : Kept2 a b X Z := ⟨Nat.le_trans h.1 k.1, k.2.1.trans h.2.1, k.2.2.trans h.2.2⟩
theorem Kept2.put {a b l : Nat} (W : World) {o : Obj} (ha : a ≠ l) (hb : b ≠ l) : Kept2 a b W (W.putObj l o) := ⟨by simp, World.putObj_heap_other ha, World.putObj_heap_other hb⟩
theorem Kept2.alloc {a b : Nat} (W : World) {o : Obj} (ha : a < W.heap.size) (hb : b < W.heap.size) : Kept2 a b W (W.alloc o) := ⟨by simp, Below.heap_alloc W o a ha, Below.heap_alloc W o b hb⟩
theorem Kept2.set {a b c o : Nat} (W : World) {v : Value} (ha : a ≠ c) (hb : b ≠ c) : Kept2 a b W (W.setCell ⟨c, o, none⟩ v) := ⟨(KeepsWalks.setCell W _ v).size, Below.heap_setCell W _ v a ha, Below.heap_setCell W _ v b hb⟩
theorem enc_1 {x : Int} (h1 : 48 ≤ x) (h2 : x ≤ 57) : (Utf8.encode x).size = 1 := by
  rcases (by omega : x = 48 ∨ x = 49 ∨ x = 50 ∨ x = 51 ∨ x = 52 ∨ x = 53 ∨ x = 54 ∨ x = 55 ∨ x = 56 ∨ x = 57) with h | h | h | h | h | h | h | h | h | h <;> subst h <;> decide
theorem dec_head {ds : List Int} (h : Dec ds) (h0 : 0 < ds.length) (_h1 : ds.length ≤ 13) : ∃ (c : UInt8) (t : List UInt8), (strOfNums ds).data.toList = c :: t ∧ c ≠ 45 := by
  cases ds with
  | nil => simp at h0
  | cons d ds =>
    refine ⟨_, _, by rw [strOfNums_data, List.map_cons], ?_⟩
    obtain ⟨a, b⟩ := h d (by simp)
    rcases (by omega : d = 48 ∨ d = 49 ∨ d = 50 ∨ d = 51 ∨ d = 52 ∨ d = 53 ∨ d = 54 ∨ d = 55 ∨ d = 56 ∨ d = 57) with h | h | h | h | h | h | h | h | h | h <;> subst h <;> decide
set_option maxHeartbeats 4000000 in
set_option maxRecDepth 100000 in
theorem text_pos (a f : Int) (w : World) (ha : gd a = true) (hf : gdF f = true) (a0 : 0 ≤ a) :
    Calls Try.prog 72 #[.int .i64 a, .int .i64 f] w fun e w' => ∃ (c : UInt8) (s : ByteArray) (t : List UInt8), e = .returned (.tuple #[.string s, .int .i64 0]) ∧ Ext w w' ∧ s.data.toList = c :: t ∧ s.size ≤ 1000 ∧ c ≠ 45 := by
  obtain ⟨f1, f2⟩ := gdF_iff.1 hf
  obtain ⟨_, a1⟩ := gd_iff.1 ha
  have ng : decide (a < 0) = false := by simp; omega
  have w1 : IntKind.u64.wrap a = a := by rw [IntKind.wrap_u64]; omega
  obtain ⟨q, hq⟩ : ∃ q, a / 2 ^ f.toNat = q := ⟨_, rfl⟩
  have q0 : 0 ≤ q := by rw [← hq]; exact Int.ediv_nonneg a0 (Int.le_of_lt (pow_pos' _))
  have q1 : q ≤ a := by rw [← hq]; exact Int.ediv_le_self _ a0
  have QB : q < 10000000000000 := by
    have e : (256 : Int) ≤ 2 ^ f.toNat := Int.le_trans (by decide) (pow_mono' (show (1 : Int) ≤ 2 by omega) (show 8 ≤ f.toNat by omega))
    have := Int.ediv_mul_le a (show (2 : Int) ^ f.toNat ≠ 0 by omega)
    rw [hq] at this
    have h2 : q * 256 ≤ q * 2 ^ f.toNat := Int.mul_le_mul_of_nonneg_left e q0
    omega
  have w2 : IntKind.i64.wrap q = q := by rw [IntKind.wrap_i64]; omega
  have FR := Lib.hid (fun v => From_any q v (by omega) (by omega))
  have TX := Lib.hid (fun v => wtext_digits v q0 QB)
  have WB := Lib.hid (low_bits (x := a) (f := f) a0 (by omega) (by omega))
  clear a1
  refine (callsIn_wide (n := 10)).1 ?_
  refine callsIn_of_wp_marks Try.func72 rfl trivial ?_
  simp only [Try.ntmps72, List.size_toArray, List.length_cons, List.length_nil, Nat.reduceAdd, Nat.reduceSub, Array.replicate_succ, Array.replicate_zero, List.push_toArray, List.append_toArray, List.nil_append, List.cons_append]
  gi_wp2_with (first | (refine ⟨trivial, ?_⟩; gi_at_call 94; refine (callsIn_wide.2 (good_any _ _)).mono ?_; rintro e w' ⟨rfl, rfl⟩) | (refine ⟨trivial, ?_⟩; gi_at_call 115; refine (callsIn_wide.2 (goodF_any _ _)).mono ?_; rintro e w' ⟨rfl, rfl⟩) | (refine ⟨trivial, ?_⟩; gi_at_call 61; refine (callsIn_wide.2 (FR.out _)).mono ?_; rintro e v1 ⟨rfl, x1⟩) | (refine ⟨trivial, ?_⟩; gi_at_call 122; refine (callsIn_wide.2 (TX.out _)).mono ?_; rintro e v2 ⟨ds, rfl, x2, hd, hd1, hd2⟩; have hz1 : ¬ (9223372036854775807 : Int) < ((strOfNums ds).size : Int) := (by rw [strOfNums_size]; omega); have hz2 : ¬ 9223372036854775807 < (strOfNums ds).size := (by rw [strOfNums_size]; omega)) | (refine ⟨trivial, ?_⟩; gi_at_call 123; rw [WB.out]; refine (callsIn_wide.2 (digits_any _ _ _)).mono ?_; rintro e v3 ⟨rfl, hv3⟩; have c0 : v3.cell? ⟨v2.heap.size, 0, none⟩ = some (.string (⟨#[]⟩ ++ strOfNums ds)) := (by rw [hv3]; simp [go_sem, *]); have z0 : v3.frozen? ⟨v2.heap.size, 0, none⟩ = false := (by rw [hv3]; simp [go_sem, *]); have c1 : v3.cell? ⟨v2.heap.size + 1, 0, none⟩ = some (.string ⟨#[46]⟩) := (by rw [hv3]; simp [go_sem, *]); have z1 : v3.frozen? ⟨v2.heap.size + 1, 0, none⟩ = false := (by rw [hv3]; simp [go_sem, *]); have c2 : v3.cell? ⟨v2.heap.size + 2, 0, none⟩ = some (.int .u64 (a % 2 ^ f.toNat)) := (by rw [hv3]; simp [go_sem, *]); have z2 : v3.frozen? ⟨v2.heap.size + 2, 0, none⟩ = false := (by rw [hv3]; simp [go_sem, *]); have c3 : v3.cell? ⟨v2.heap.size + 3, 0, none⟩ = some (.int .i64 f) := (by rw [hv3]; simp [go_sem, *]); have z3 : v3.frozen? ⟨v2.heap.size + 3, 0, none⟩ = false := (by rw [hv3]; simp [go_sem, *]); have sz : v3.heap.size = v2.heap.size + 4 := (by rw [hv3]; simp); have x3 : Ext v2 v3 := (by rw [hv3]; exact ((((Ext.refl _).alloc _).alloc _).alloc _).alloc _); clear hv3))
  have MN := Lib.hid (show 0 ≤ a % 2 ^ f.toNat ∧ a % 2 ^ f.toNat < 2 ^ f.toNat from ⟨Int.emod_nonneg _ (by have := pow_pos' f.toNat; omega), Int.emod_lt_of_pos _ (pow_pos' _)⟩)
  obtain ⟨c, t0, HD, hc⟩ := dec_head hd hd1 hd2
  have HC := Lib.hid hc
  clear hc
  have HEAD := Lib.hid (show (⟨#[]⟩ ++ strOfNums ds : ByteArray).data.toList = c :: t0 ∧ (⟨#[]⟩ ++ strOfNums ds : ByteArray).size ≤ 20 + 10 * ([] : List Int).length from ⟨by simpa using HD, by have e0 : (⟨#[]⟩ : ByteArray).size = 0 := rfl; simp [strOfNums_size, e0]; omega⟩)
  have XW := Lib.hid (show Ext w v3 from (by repeat (first | with_reducible exact Ext.refl _ | with_reducible apply Ext.drew | with_reducible apply Ext.drewN | with_reducible apply Ext.alloc | ((with_reducible refine Ext.setCell ?_ ?_ _); rotate_left; focus (first | (simp; done) | (simp; omega) | omega)) | with_reducible refine Ext.tr ?_ x1 | with_reducible refine Ext.tr ?_ x2 | with_reducible refine Ext.tr ?_ x3 | with_reducible refine Ext.tr ?_ hx | with_reducible assumption)))
  have hw2 : w.heap.size ≤ v2.heap.size := (show Ext w v2 from (by repeat (first | with_reducible exact Ext.refl _ | with_reducible apply Ext.drew | with_reducible apply Ext.drewN | with_reducible apply Ext.alloc | ((with_reducible refine Ext.setCell ?_ ?_ _); rotate_left; focus (first | (simp; done) | (simp; omega) | omega)) | with_reducible refine Ext.tr ?_ x1 | with_reducible refine Ext.tr ?_ x2 | with_reducible refine Ext.tr ?_ x3 | with_reducible refine Ext.tr ?_ hx | with_reducible assumption))).size
  clear hd hd1 hd2 hz1 hz2 WB QB q0 q1 w1 w2 HD TX FR
  have p0' := pow_pos' f.toNat
  refine range_iter rfl (by omega) (gf := 165) (lb := #[.pointer (some ⟨v2.heap.size + 2, 0, none⟩), .pointer (some ⟨v2.heap.size + 3, 0, none⟩)]) rfl trivial (enters_of Try.func165 (by kernel_rfl) rfl)
    (digits_iter 9 (by omega) (v2.heap.size + 2) (v2.heap.size + 3) f _ v3 hf MN.out.1 MN.out.2 c2 z2 c3 (by omega)) (by omega)
    (fun h k => h.trans k) (fun W l o hl => Kept2.put W (by omega) (by omega)) (fun W o hl => Kept2.alloc W (by omega) (by omega)) (fun _ => rfl)
    (fun pre W => (∃ (sb pb : ByteArray) (t : List UInt8), W.cell? ⟨v2.heap.size, 0, none⟩ = some (.string sb) ∧ W.frozen? ⟨v2.heap.size, 0, none⟩ = false ∧ W.cell? ⟨v2.heap.size + 1, 0, none⟩ = some (.string pb) ∧ W.frozen? ⟨v2.heap.size + 1, 0, none⟩ = false ∧ sb.data.toList = c :: t ∧ sb.size ≤ 20 + 10 * pre.length ∧ pb.size ≤ 1) ∧ Ext w W)
    (fun _ _ _ => False)
    (OwnFrom.and (Own.from (fun s A B row hs hg hr => by obtain ⟨sb, pb, t, i1, i2, i3, i4, i5⟩ := hs; exact ⟨sb, pb, t, cell_kept i1 hg hr, (frozen_kept i1 hg hr).trans i2, cell_kept i3 hg hr, (frozen_kept i3 hg hr).trans i4, i5⟩) _) (ownFrom_below (Nat.le_refl _) (by omega)))
    (fun _ _ _ _ _ hs _ _ => hs)
    (fun s A B hs hg => ⟨by obtain ⟨⟨sb, pb, t, i1, i2, i3, i4, i5⟩, -⟩ := hs; exact ⟨sb, pb, t, hg.cell i1 (by simp), grow_frozen hg i1 i2 (by simp), hg.cell i3 (by simp), grow_frozen hg i3 i4 (by simp), i5⟩, Ext.grown hs.2 hg (fun k e => by cases e; omega)⟩)
    (fun _ _ _ _ hs _ => hs)
    ⟨⟨_, _, t0, c0, z0, c1, z1, HEAD.out.1, HEAD.out.2, by decide⟩, XW.out⟩
    (fun pre W hp _ => by have := hp.1; omega) ?round ?done ?stop
  case round =>
    intro l pre x W hsz hp hi
    gi_wp2
    refine ⟨KeepsOthers.refl _, ⟨Nat.le_refl _, rfl, rfl⟩, hi, fun _ => True, fun _ _ _ _ _ _ _ => trivial, trivial, fun W2 hlt hi2 _ => ?_⟩
    clear hi
    obtain ⟨⟨sb, pb, t, i1, i2, i3, i4, i5, i6, i7⟩, hx⟩ := hi2
    obtain ⟨d1, d2⟩ := hp.2 x (by simp)
    have hlen := hp.1
    obtain ⟨m, hm, hm1⟩ : ∃ m : Nat, (Utf8.encode x).size = m ∧ m ≤ 1 := ⟨_, rfl, by rw [enc_1 d1 d2]; omega⟩
    have w5 : IntKind.i32.wrap x = x := by rw [IntKind.wrap_i32]; omega
    have s1 : ¬ (9223372036854775807 : Int) < (pb.size : Int) + (m : Int) := by omega
    have s2 : ¬ (9223372036854775807 : Int) < (sb.size : Int) + ((pb.size : Int) + (m : Int)) := by simp at hlen; omega
    have I5 := Lib.hid i5
    have I6 := Lib.hid i6
    have I7 := Lib.hid i7
    have HLT := Lib.hid hlt
    clear i5 i6 i7 hp hlen c0 c1 c2 c3 z0 z1 z2 z3 d1 d2
    gi_wp2
    refine ⟨(KeepsOthers.setCell _ _ _).trans (KeepsOthers.setCell _ _ _), (Kept2.set _ (by omega) (by omega)).trans (Kept2.set _ (by omega) (by omega)), ⟨sb ++ (pb ++ Utf8.encode x), by simp [go_sem, *], by simp [go_sem, *], ⟨#[]⟩, by simp [go_sem, *], by simp [go_sem, *], ⟨t ++ (pb ++ Utf8.encode x).data.toList, by rw [ByteArray.data_append, Array.toList_append, I5.out]; rfl⟩, ?_, by decide⟩, (hx.setCell hw2 _).setCell (by show _ ≤ v2.heap.size + 1; omega) _⟩
    have b6 := I6.out
    have b7 := I7.out
    rw [ByteArray.size_append, ByteArray.size_append, hm, List.length_append]
    simp only [List.length_cons, List.length_nil]
    omega
  case done =>
    rintro D ys W hD hys ⟨⟨sb, pb, t, i1, i2, i3, i4, i5, i6, i7⟩, hx⟩ hK
    have hP : w.heap.size ≤ D := by omega
    have XF : Ext w (W.putObj D (.deferred none)) := hx.trans (belowK_b (w := w) (Nat.le_refl _) W D _ _ hP hK rfl rfl)
    have FIN : ∃ (c' : UInt8) (s' : ByteArray) (t' : List UInt8), Ending.returned (.tuple #[.string sb, .int .i64 0]) = .returned (.tuple #[.string s', .int .i64 0]) ∧ Ext w (W.putObj D (.deferred none)) ∧ s'.data.toList = c' :: t' ∧ s'.size ≤ 1000 ∧ c' ≠ 45 := ⟨c, sb, t, rfl, XF, i5, by have := hys.1; omega, HC.out⟩
    gi_wp2
    refine ⟨by simp, .inl ⟨_, _, rfl, run_takeDeferred hK, ?_⟩⟩
    refine ⟨_, results_tmp2 rfl _ _ _, ?_⟩
    first
      | exact FIN
      | (dsimp only; exact FIN)
      | (simp only [List.getElem?_toArray]; exact FIN)

  case stop =>
    rintro D c' pre W _ _ h _
    exact h.elim
set_option maxHeartbeats 4000000 in
set_option maxRecDepth 100000 in
theorem text_neg (a f : Int) (w : World) (ha : gd a = true) (hf : gdF f = true) (a0 : a < 0) :
    Calls Try.prog 72 #[.int .i64 a, .int .i64 f] w fun e w' => ∃ (c : UInt8) (s : ByteArray) (t : List UInt8), e = .returned (.tuple #[.string s, .int .i64 0]) ∧ Ext w w' ∧ s.data.toList = c :: t ∧ s.size ≤ 1000 ∧ c = 45 := by
  obtain ⟨f1, f2⟩ := gdF_iff.1 hf
  obtain ⟨a1, _⟩ := gd_iff.1 ha
  have ng : decide (a < 0) = true := by simp; omega
  have w1 : IntKind.u64.wrap a = a + 18446744073709551616 := by rw [IntKind.wrap_u64]; omega
  have w1b : IntKind.u64.wrap (-(a + 18446744073709551616)) = -a := by rw [IntKind.wrap_u64]; omega
  obtain ⟨q, hq⟩ : ∃ q, -a / 2 ^ f.toNat = q := ⟨_, rfl⟩
  have q0 : 0 ≤ q := by rw [← hq]; exact Int.ediv_nonneg (by omega) (Int.le_of_lt (pow_pos' _))
  have q1 : q ≤ -a := by rw [← hq]; exact Int.ediv_le_self _ (by omega)
  have QB : q < 10000000000000 := by
    have e : (256 : Int) ≤ 2 ^ f.toNat := Int.le_trans (by decide) (pow_mono' (show (1 : Int) ≤ 2 by omega) (show 8 ≤ f.toNat by omega))
    have := Int.ediv_mul_le (-a) (show (2 : Int) ^ f.toNat ≠ 0 by omega)
    rw [hq] at this
    have h2 : q * 256 ≤ q * 2 ^ f.toNat := Int.mul_le_mul_of_nonneg_left e q0
    omega
  have w2 : IntKind.i64.wrap q = q := by rw [IntKind.wrap_i64]; omega
  have FR := Lib.hid (fun v => From_any q v (by omega) (by omega))
  have TX := Lib.hid (fun v => wtext_digits v q0 QB)
  have WB := Lib.hid (low_bits (x := -a) (f := f) (by omega) (by omega) (by omega))
  clear a1
  refine (callsIn_wide (n := 10)).1 ?_
  refine callsIn_of_wp_marks Try.func72 rfl trivial ?_
  simp only [Try.ntmps72, List.size_toArray, List.length_cons, List.length_nil, Nat.reduceAdd, Nat.reduceSub, Array.replicate_succ, Array.replicate_zero, List.push_toArray, List.append_toArray, List.nil_append, List.cons_append]
  gi_wp2_with (first | (refine ⟨trivial, ?_⟩; gi_at_call 94; refine (callsIn_wide.2 (good_any _ _)).mono ?_; rintro e w' ⟨rfl, rfl⟩) | (refine ⟨trivial, ?_⟩; gi_at_call 115; refine (callsIn_wide.2 (goodF_any _ _)).mono ?_; rintro e w' ⟨rfl, rfl⟩) | (refine ⟨trivial, ?_⟩; gi_at_call 61; refine (callsIn_wide.2 (FR.out _)).mono ?_; rintro e v1 ⟨rfl, x1⟩) | (refine ⟨trivial, ?_⟩; gi_at_call 122; refine (callsIn_wide.2 (TX.out _)).mono ?_; rintro e v2 ⟨ds, rfl, x2, hd, hd1, hd2⟩; have hz1 : ¬ (9223372036854775807 : Int) < ((strOfNums ds).size : Int) := (by rw [strOfNums_size]; omega); have hz2 : ¬ 9223372036854775807 < (strOfNums ds).size := (by rw [strOfNums_size]; omega); have hz3 : ¬ (9223372036854775807 : Int) < 1 + ((strOfNums ds).size : Int) := (by rw [strOfNums_size]; omega); have hz4 : ¬ (9223372036854775807 : Int) < ((⟨#[45]⟩ : ByteArray).size : Int) + ((strOfNums ds).size : Int) := (by rw [strOfNums_size]; have e0 : (⟨#[45]⟩ : ByteArray).size = 1 := rfl; rw [e0]; omega)) | (refine ⟨trivial, ?_⟩; gi_at_call 123; rw [WB.out]; refine (callsIn_wide.2 (digits_any _ _ _)).mono ?_; rintro e v3 ⟨rfl, hv3⟩; have c0 : v3.cell? ⟨v2.heap.size, 0, none⟩ = some (.string (⟨#[45]⟩ ++ strOfNums ds)) := (by rw [hv3]; simp [go_sem, *]); have z0 : v3.frozen? ⟨v2.heap.size, 0, none⟩ = false := (by rw [hv3]; simp [go_sem, *]); have c1 : v3.cell? ⟨v2.heap.size + 1, 0, none⟩ = some (.string ⟨#[46]⟩) := (by rw [hv3]; simp [go_sem, *]); have z1 : v3.frozen? ⟨v2.heap.size + 1, 0, none⟩ = false := (by rw [hv3]; simp [go_sem, *]); have c2 : v3.cell? ⟨v2.heap.size + 2, 0, none⟩ = some (.int .u64 (-a % 2 ^ f.toNat)) := (by rw [hv3]; simp [go_sem, *]); have z2 : v3.frozen? ⟨v2.heap.size + 2, 0, none⟩ = false := (by rw [hv3]; simp [go_sem, *]); have c3 : v3.cell? ⟨v2.heap.size + 3, 0, none⟩ = some (.int .i64 f) := (by rw [hv3]; simp [go_sem, *]); have z3 : v3.frozen? ⟨v2.heap.size + 3, 0, none⟩ = false := (by rw [hv3]; simp [go_sem, *]); have sz : v3.heap.size = v2.heap.size + 4 := (by rw [hv3]; simp); have x3 : Ext v2 v3 := (by rw [hv3]; exact ((((Ext.refl _).alloc _).alloc _).alloc _).alloc _); clear hv3))
  have MN := Lib.hid (show 0 ≤ -a % 2 ^ f.toNat ∧ -a % 2 ^ f.toNat < 2 ^ f.toNat from ⟨Int.emod_nonneg _ (by have := pow_pos' f.toNat; omega), Int.emod_lt_of_pos _ (pow_pos' _)⟩)
  obtain ⟨c, hc⟩ : ∃ c : UInt8, c = 45 := ⟨_, rfl⟩
  have HC := Lib.hid hc
  clear hc
  obtain ⟨t0, HD⟩ : ∃ t0, (strOfNums ds).data.toList = t0 := ⟨_, rfl⟩
  have HEAD := Lib.hid (show (⟨#[45]⟩ ++ strOfNums ds : ByteArray).data.toList = c :: t0 ∧ (⟨#[45]⟩ ++ strOfNums ds : ByteArray).size ≤ 20 + 10 * ([] : List Int).length from ⟨by rw [ByteArray.data_append, Array.toList_append, HD, HC.out]; rfl, by rw [ByteArray.size_append, strOfNums_size]; have e0 : (⟨#[45]⟩ : ByteArray).size = 1 := rfl; simp [e0]; omega⟩)
  have XW := Lib.hid (show Ext w v3 from (by repeat (first | with_reducible exact Ext.refl _ | with_reducible apply Ext.drew | with_reducible apply Ext.drewN | with_reducible apply Ext.alloc | ((with_reducible refine Ext.setCell ?_ ?_ _); rotate_left; focus (first | (simp; done) | (simp; omega) | omega)) | with_reducible refine Ext.tr ?_ x1 | with_reducible refine Ext.tr ?_ x2 | with_reducible refine Ext.tr ?_ x3 | with_reducible refine Ext.tr ?_ hx | with_reducible assumption)))
  have hw2 : w.heap.size ≤ v2.heap.size := (show Ext w v2 from (by repeat (first | with_reducible exact Ext.refl _ | with_reducible apply Ext.drew | with_reducible apply Ext.drewN | with_reducible apply Ext.alloc | ((with_reducible refine Ext.setCell ?_ ?_ _); rotate_left; focus (first | (simp; done) | (simp; omega) | omega)) | with_reducible refine Ext.tr ?_ x1 | with_reducible refine Ext.tr ?_ x2 | with_reducible refine Ext.tr ?_ x3 | with_reducible refine Ext.tr ?_ hx | with_reducible assumption))).size
  clear hd hd1 hd2 hz1 hz2 hz3 hz4 WB QB q0 q1 w1 w1b w2 HD TX FR
  have p0' := pow_pos' f.toNat
  refine range_iter rfl (by omega) (gf := 165) (lb := #[.pointer (some ⟨v2.heap.size + 2, 0, none⟩), .pointer (some ⟨v2.heap.size + 3, 0, none⟩)]) rfl trivial (enters_of Try.func165 (by kernel_rfl) rfl)
    (digits_iter 9 (by omega) (v2.heap.size + 2) (v2.heap.size + 3) f _ v3 hf MN.out.1 MN.out.2 c2 z2 c3 (by omega)) (by omega)
    (fun h k => h.trans k) (fun W l o hl => Kept2.put W (by omega) (by omega)) (fun W o hl => Kept2.alloc W (by omega) (by omega)) (fun _ => rfl)
    (fun pre W => (∃ (sb pb : ByteArray) (t : List UInt8), W.cell? ⟨v2.heap.size, 0, none⟩ = some (.string sb) ∧ W.frozen? ⟨v2.heap.size, 0, none⟩ = false ∧ W.cell? ⟨v2.heap.size + 1, 0, none⟩ = some (.string pb) ∧ W.frozen? ⟨v2.heap.size + 1, 0, none⟩ = false ∧ sb.data.toList = c :: t ∧ sb.size ≤ 20 + 10 * pre.length ∧ pb.size ≤ 1) ∧ Ext w W)
    (fun _ _ _ => False)
    (OwnFrom.and (Own.from (fun s A B row hs hg hr => by obtain ⟨sb, pb, t, i1, i2, i3, i4, i5⟩ := hs; exact ⟨sb, pb, t, cell_kept i1 hg hr, (frozen_kept i1 hg hr).trans i2, cell_kept i3 hg hr, (frozen_kept i3 hg hr).trans i4, i5⟩) _) (ownFrom_below (Nat.le_refl _) (by omega)))
    (fun _ _ _ _ _ hs _ _ => hs)
    (fun s A B hs hg => ⟨by obtain ⟨⟨sb, pb, t, i1, i2, i3, i4, i5⟩, -⟩ := hs; exact ⟨sb, pb, t, hg.cell i1 (by simp), grow_frozen hg i1 i2 (by simp), hg.cell i3 (by simp), grow_frozen hg i3 i4 (by simp), i5⟩, Ext.grown hs.2 hg (fun k e => by cases e; omega)⟩)
    (fun _ _ _ _ hs _ => hs)
    ⟨⟨_, _, t0, c0, z0, c1, z1, HEAD.out.1, HEAD.out.2, by decide⟩, XW.out⟩
    (fun pre W hp _ => by have := hp.1; omega) ?round ?done ?stop
  case round =>
    intro l pre x W hsz hp hi
    gi_wp2
    refine ⟨KeepsOthers.refl _, ⟨Nat.le_refl _, rfl, rfl⟩, hi, fun _ => True, fun _ _ _ _ _ _ _ => trivial, trivial, fun W2 hlt hi2 _ => ?_⟩
    clear hi
    obtain ⟨⟨sb, pb, t, i1, i2, i3, i4, i5, i6, i7⟩, hx⟩ := hi2
    obtain ⟨d1, d2⟩ := hp.2 x (by simp)
    have hlen := hp.1
    obtain ⟨m, hm, hm1⟩ : ∃ m : Nat, (Utf8.encode x).size = m ∧ m ≤ 1 := ⟨_, rfl, by rw [enc_1 d1 d2]; omega⟩
    have w5 : IntKind.i32.wrap x = x := by rw [IntKind.wrap_i32]; omega
    have s1 : ¬ (9223372036854775807 : Int) < (pb.size : Int) + (m : Int) := by omega
    have s2 : ¬ (9223372036854775807 : Int) < (sb.size : Int) + ((pb.size : Int) + (m : Int)) := by simp at hlen; omega
    have I5 := Lib.hid i5
    have I6 := Lib.hid i6
    have I7 := Lib.hid i7
    have HLT := Lib.hid hlt
    clear i5 i6 i7 hp hlen c0 c1 c2 c3 z0 z1 z2 z3 d1 d2
    gi_wp2
    refine ⟨(KeepsOthers.setCell _ _ _).trans (KeepsOthers.setCell _ _ _), (Kept2.set _ (by omega) (by omega)).trans (Kept2.set _ (by omega) (by omega)), ⟨sb ++ (pb ++ Utf8.encode x), by simp [go_sem, *], by simp [go_sem, *], ⟨#[]⟩, by simp [go_sem, *], by simp [go_sem, *], ⟨t ++ (pb ++ Utf8.encode x).data.toList, by rw [ByteArray.data_append, Array.toList_append, I5.out]; rfl⟩, ?_, by decide⟩, (hx.setCell hw2 _).setCell (by show _ ≤ v2.heap.size + 1; omega) _⟩
    have b6 := I6.out
    have b7 := I7.out
    rw [ByteArray.size_append, ByteArray.size_append, hm, List.length_append]
    simp only [List.length_cons, List.length_nil]
    omega
  case done =>
    rintro D ys W hD hys ⟨⟨sb, pb, t, i1, i2, i3, i4, i5, i6, i7⟩, hx⟩ hK
    have hP : w.heap.size ≤ D := by omega
    have XF : Ext w (W.putObj D (.deferred none)) := hx.trans (belowK_b (w := w) (Nat.le_refl _) W D _ _ hP hK rfl rfl)
    have FIN : ∃ (c' : UInt8) (s' : ByteArray) (t' : List UInt8), Ending.returned (.tuple #[.string sb, .int .i64 0]) = .returned (.tuple #[.string s', .int .i64 0]) ∧ Ext w (W.putObj D (.deferred none)) ∧ s'.data.toList = c' :: t' ∧ s'.size ≤ 1000 ∧ c' = 45 := ⟨c, sb, t, rfl, XF, i5, by have := hys.1; omega, HC.out⟩
    gi_wp2
    refine ⟨by simp, .inl ⟨_, _, rfl, run_takeDeferred hK, ?_⟩⟩
    refine ⟨_, results_tmp2 rfl _ _ _, ?_⟩
    first
      | exact FIN
      | (dsimp only; exact FIN)
      | (simp only [List.getElem?_toArray]; exact FIN)

  case stop =>
    rintro D c' pre W _ _ h _
    exact h.elim
theorem text_any (a f : Int) (w : World) (ha : gd a = true) (hf : gdF f = true) :
    Calls Try.prog 72 #[.int .i64 a, .int .i64 f] w fun e w' => ∃ (c : UInt8) (s : ByteArray) (t : List UInt8), e = .returned (.tuple #[.string s, .int .i64 0]) ∧ Ext w w' ∧ s.data.toList = c :: t ∧ s.size ≤ 1000 ∧ (c = 45 ↔ a < 0) := by
  rcases Int.lt_or_le a 0 with h | h
  · refine (text_neg a f w ha hf h).mono ?_
    rintro e w' ⟨c, s, t, h1, h2, h3, h4, h5⟩
    exact ⟨c, s, t, h1, h2, h3, h4, fun _ => h, fun _ => h5⟩
  · refine (text_pos a f w ha hf h).mono ?_
    rintro e w' ⟨c, s, t, h1, h2, h3, h4, h5⟩
    exact ⟨c, s, t, h1, h2, h3, h4, fun k => absurd k h5, fun k => absurd k (by omega)⟩
end Go.Proofs.Ytielcbpjnjdlmaa
