/- What the laws of layer 14 share: the argument's cells; num, Rows, wakes. -/
import Derived.Test.YtjmecongccjcgaaNorm
import Derived.Test.YtjmecongccjcgaaHeavy
import Derived.Test.YtjmecongccjcgaaFieldT
import Derived.Test.YtjmecongccjcgaaLists
namespace Go.Proofs.Ytjmecongccjcgaa
open Go.RowKit Go.WideShapes Go.ChangeShapes Go.Deep
attribute [local go_sem ↓] Go.wp_at_zero Go.wp_at_succ
/-- One of the law's inputs, as its five cells hold it. -/
structure AskN (w : World) (b o : Nat) (s d : Value) (xs ds : List Int) (E W F : Int) : Prop where
  c0 : w.cell? ⟨b, o, none⟩ = some s
  c1 : w.cell? ⟨b, o + 1, none⟩ = some d
  c2 : w.cell? ⟨b, o + 2, none⟩ = some (.int .i64 E)
  c3 : w.cell? ⟨b, o + 3, none⟩ = some (.int .i64 W)
  c4 : w.cell? ⟨b, o + 4, none⟩ = some (.int .i64 F)
  r0 : Row .i64 w s xs
  r1 : Row .i64 w d ds
def AsksN (w : World) (b o len : Nat) : Prop :=
  ∀ k, k < len → ∃ s d xs ds E W F, AskN w b (o + k * 5) s d xs ds E W F ∧ I64 E ∧ I64 W ∧ I64 F ∧ (∀ z ∈ xs, I64 z) ∧ ∀ z ∈ ds, I64 z
theorem AskN.ext {w w' : World} {b o : Nat} {s d : Value} {xs ds : List Int} {E W F : Int} (h : AskN w b o s d xs ds E W F) (x : Ext w w') : AskN w' b o s d xs ds E W F :=
  ⟨x.cell h.c0, x.cell h.c1, x.cell h.c2, x.cell h.c3, x.cell h.c4, h.r0.ext x, h.r1.ext x⟩
set_option maxRecDepth 100000 in
theorem askN_open {H : Type} {enc : TypeId × Value → H} {w : World} {base : Nat} {v : Value} {d : DataW H} {p : List MemPlace}
    (hv : Value.okWide Try.prog w .any base 47 v) (h : DataW.Trod enc Try.prog w 0 (fun _ => true) true 47 v d p) :
    (∃ a cap, v = .slice a 0 cap) ∨ ∃ b o len cap, v = .slice (some ⟨b, o, none⟩) len cap ∧ 0 < len ∧ len ≤ 9223372036854775807 ∧ AsksN w b o len := by
  rcases slice_open (C := 5) Try.underlying47 (by kernel_rfl) (by decide) hv h with h0 | ⟨b, o, len, cap, rfl, h1, h2, h3⟩
  · exact .inl h0
  refine .inr ⟨b, o, len, cap, rfl, h1, h2, fun k hk => ?_⟩
  obtain ⟨cs, m, y, cell, ht⟩ := h3 k hk
  obtain ⟨sa, da, xa, ya, a0, a1, r0, r1, i0, i1⟩ := field_ten Try.underlying49 ht 0 _ rfl rfl
  obtain ⟨E, a2, wE⟩ := field_int Try.underlying49 ht 1 _ .i64 rfl Try.underlying2 (by kernel_rfl)
  obtain ⟨W, a3, wW⟩ := field_int Try.underlying49 ht 2 _ .i64 rfl Try.underlying2 (by kernel_rfl)
  obtain ⟨F, a4, wF⟩ := field_int Try.underlying49 ht 3 _ .i64 rfl Try.underlying3 (by kernel_rfl)
  exact ⟨sa, da, xa, ya, E, W, F, ⟨by simpa using cell 0 _ a0, cell 1 _ a1, cell 2 _ a2, cell 3 _ a3, cell 4 _ a4, r0, r1⟩, i64_wf wE, i64_wf wW, i64_wf wF, i0, i1⟩
theorem num14_any (a : Int) (w : World) : Calls Try.prog 20 #[.int .i64 a] w fun e w' => e = .returned (.int .i64 a) ∧ w = w' := by
  go_enter Try.func20, Try.ntmps20
  go_wp2
  go_ret
  exact ⟨rfl, rfl⟩
/-- ratchetref13.Rows: the last dimension. -/
theorem rows13_any {s d : Value} {xs ds : List Int} {w : World} (hs : Row .i64 w s xs) (hd : Row .i64 w d ds) (hl : 0 < xs.length) (hl2 : xs.length ≤ 1000) (n : Nat) (hn : xs.getD (xs.length - 1) 0 = n) :
    Calls Try.prog 18 #[.agg #[s, d]] w fun e w' => e = .returned (.int .i64 n) ∧ Ext w w' := by
  obtain ⟨a, c, rfl, -⟩ := hs.form
  obtain ⟨b, o, rfl, h⟩ := hxc_of hs (by intro e; subst e; simp at hl)
  have c1 : ∀ ob : Obj, (w.alloc ob).cell? ⟨b, o + (xs.length - 1), none⟩ = some (.int .i64 n) := fun ob => Lib.cell?_alloc_some _ (by rw [← hn]; exact h _ (by omega))
  obtain ⟨a2, c2, rfl, -⟩ := hd.form
  have ws : IntKind.i64.wrap ((xs.length : Int) - 1) = ((xs.length - 1 : Nat) : Int) := by rw [IntKind.wrap_i64]; omega
  have hlt : xs.length - 1 < xs.length := by omega
  have HN := Lib.hid hn
  clear hs hd h hn
  go_enter Try.func18, Try.ntmps18
  go_wp2
  go_ret
  exact ⟨rfl, (by repeat (first | with_reducible exact Ext.refl _ | with_reducible apply Ext.drew | with_reducible apply Ext.drewN | with_reducible apply Ext.alloc | ((with_reducible refine Ext.setCell ?_ ?_ _); rotate_left; focus (first | (simp; done) | (simp; omega) | omega)) | with_reducible refine Ext.tr ?_ x1 | with_reducible refine Ext.tr ?_ xa | with_reducible assumption))⟩
/-- Two words round their mean. -/
theorem norm_two {z : Int} (h : IsNorm (fun t => ([256, 512] : List Int).getD (0 * 2 + t) 0) 2 1 8 0 z) : z = -254 :=
  h.only ⟨254, by unfold NearRoot; decide, by decide⟩ (by omega) (by omega)
theorem norm_two' {z : Int} (h : IsNorm (fun t => ([256, 512] : List Int).getD (0 * 2 + t) 0) 2 1 8 1 z) : z = 254 :=
  h.only ⟨254, by unfold NearRoot; decide, by decide⟩ (by omega) (by omega)
theorem norm_twos {zs : List Int} (hl : zs.length = 2) (h : NormTo [256, 512] 2 1 8 zs 2) : zs = [-254, 254] := by
  have h0 := norm_two (h 0 (by omega))
  have h1 := norm_two' (h 1 (by omega))
  match zs, hl with
  | [a, b], _ => simp at h0 h1; rw [h0, h1]
theorem row_one {w : World} {g : Nat} {x : Int} (h : w.cell? ⟨g, 0, none⟩ = some (.int .i64 x)) : Row .i64 w (.slice (some ⟨g, 0, none⟩) 1 1) [x] := by
  refine ⟨some ⟨g, 0, none⟩, 1, rfl, by simp, by unfold maxLen; omega, fun _ => ⟨g, 0, rfl, fun i hi => ?_⟩⟩
  obtain rfl : i = 0 := by simpa using hi
  simpa using h
theorem row_two {w : World} {g : Nat} {x y : Int} (h : w.cell? ⟨g, 0, none⟩ = some (.int .i64 x)) (k : w.cell? ⟨g, 1, none⟩ = some (.int .i64 y)) : Row .i64 w (.slice (some ⟨g, 0, none⟩) 2 2) [x, y] := by
  refine ⟨some ⟨g, 0, none⟩, 2, rfl, by simp, by unfold maxLen; omega, fun _ => ⟨g, 0, rfl, fun i hi => ?_⟩⟩
  rcases (by simp at hi; omega : i = 0 ∨ i = 1) with rfl | rfl
  · simpa using h
  · simpa using k
set_option maxHeartbeats 2000000 in
theorem wakes14 (w : World) : Calls Try.prog 31 #[] w fun e w' => e = .returned (.bool true) ∧ Ext w w' := by
  have N := Lib.hid (fun (g h : Nat) (v : World) (k0 : v.cell? ⟨g, 0, none⟩ = some (.int .i64 2)) (k1 : v.cell? ⟨h, 0, none⟩ = some (.int .i64 256)) (k2 : v.cell? ⟨h, 1, none⟩ = some (.int .i64 512)) =>
    nNorm_ok (eps := 1) (f := 8) (w := v) (row_one k0) (row_two k1 k2) (by decide) (by decide) (by decide) (by decide) (by decide) (by decide) 2 (by decide))
  have Q := Lib.hid (fun (b : Nat) (v : World) (u : Value) (r : Row .i64 v u [-254, 254]) (k1 : v.cell? ⟨b, 0, none⟩ = some (.int .i64 (-254))) (k2 : v.cell? ⟨b, 1, none⟩ = some (.int .i64 254)) => eqWords_any r (row_two k1 k2))
  go_enter Try.func31, Try.ntmps31
  go_wp2_with fail; refine (N.out _ _ _ (by simp [go_sem]) (by simp [go_sem]) (by simp [go_sem])).mono ?_; rintro e v1 ⟨v, rfl, x1, nr⟩; obtain ⟨c1, f1⟩ := x1.rules; have z1 := x1.size
  obtain ⟨g1, q1, cur, g2, zs, rfl, -, -, -, -, -, b2, -, -, hl, hN⟩ := nr.is
  obtain rfl := norm_twos hl hN
  have B2 := Lib.hid b2
  clear nr hl hN b2 N
  go_wp2_with (go_at_call 20; refine (num14_any _ _).mono ?_; rintro e w' ⟨rfl, rfl⟩)
  refine (Q.out _ _ _ (Row.ext (Row.of_blk B2.out (n := 2) rfl (by unfold maxLen; omega)) (by repeat (first | with_reducible exact Ext.refl _ | with_reducible apply Ext.drew | with_reducible apply Ext.drewN | with_reducible apply Ext.alloc | ((with_reducible refine Ext.setCell ?_ ?_ _); rotate_left; focus (first | (simp; done) | (simp; omega) | omega)) | with_reducible refine Ext.tr ?_ x1 | with_reducible refine Ext.tr ?_ xa | with_reducible assumption))) (by simp [go_sem]) (by simp [go_sem])).mono ?_
  rintro e w' ⟨rfl, n2, rfl⟩
  go_wp2
  go_ret
  exact ⟨rfl, (by repeat (first | with_reducible exact Ext.refl _ | with_reducible apply Ext.drew | with_reducible apply Ext.drewN | with_reducible apply Ext.alloc | ((with_reducible refine Ext.setCell ?_ ?_ _); rotate_left; focus (first | (simp; done) | (simp; omega) | omega)) | with_reducible refine Ext.tr ?_ x1 | with_reducible refine Ext.tr ?_ xa | with_reducible assumption))⟩
end Go.Proofs.Ytjmecongccjcgaa
