/- ref1: Rat, Int. ref2: Word, Over. -/
import Derived.Test.YtjmecongccjcgaaInts2
import Derived.Test.YtjmecongccjcgaaReckon
namespace Go.Proofs.Ytjmecongccjcgaa
open Go.RowKit
theorem Word_ref {v : Value} {x : Int} {L : Nat} {w : World} (h : IntAt w v x L) :
    Calls Try.prog 55 #[v] w fun e w' => e = .returned (.tuple #[.int .i64 (wv x), .int .i64 (we x)]) ∧ Ext w w' := by
  have H := Lib.hid h
  obtain ⟨a, k, c, rfl, -⟩ := h.form
  clear h
  have S := Lib.hid (fun (u : World) h => Small_ref (v := .agg #[.bool (decide (x < 0)), .slice a k c]) (x := x) (L := L) (w := u) h)
  by_cases hb : -9223372036854775808 ≤ x ∧ x < 9223372036854775808
  · have s := S.out
    rw [(sb_of hb).1, (sb_of hb).2] at s
    have S' := Lib.hid s
    clear s S hb
    cases g : gd x
    · rw [wv_no g, we_no g]
      go_enter Try.func55, Try.ntmps55
      go_wp2_with fail; refine (S'.out _ (H.out.ext (by repeat (first | with_reducible exact Ext.refl _ | with_reducible apply Ext.drew | with_reducible apply Ext.drewN | with_reducible apply Ext.alloc | ((with_reducible refine Ext.setCell ?_ ?_ _); rotate_left; focus (first | (simp; done) | (simp; omega) | omega)) | with_reducible refine Ext.tr ?_ x1 | with_reducible assumption)))).mono ?_; rintro e v1 ⟨rfl, x1⟩; obtain ⟨c1, f1⟩ := x1.rules; have z1 := x1.size
      go_wp2_with fail; refine (may2_any _ _).mono ?_; rintro e w' ⟨rfl, rfl⟩
      go_wp2
      go_ret2
      exact ⟨rfl, (by repeat (first | with_reducible exact Ext.refl _ | with_reducible apply Ext.drew | with_reducible apply Ext.drewN | with_reducible apply Ext.alloc | ((with_reducible refine Ext.setCell ?_ ?_ _); rotate_left; focus (first | (simp; done) | (simp; omega) | omega)) | with_reducible refine Ext.tr ?_ x1 | with_reducible assumption))⟩
    · rw [wv_of g, we_of g]
      go_enter Try.func55, Try.ntmps55
      go_wp2_with fail; refine (S'.out _ (H.out.ext (by repeat (first | with_reducible exact Ext.refl _ | with_reducible apply Ext.drew | with_reducible apply Ext.drewN | with_reducible apply Ext.alloc | ((with_reducible refine Ext.setCell ?_ ?_ _); rotate_left; focus (first | (simp; done) | (simp; omega) | omega)) | with_reducible refine Ext.tr ?_ x1 | with_reducible assumption)))).mono ?_; rintro e v1 ⟨rfl, x1⟩; obtain ⟨c1, f1⟩ := x1.rules; have z1 := x1.size
      go_wp2_with fail; refine (may2_any _ _).mono ?_; rintro e w' ⟨rfl, rfl⟩
      go_wp2
      go_ret2
      exact ⟨rfl, (by repeat (first | with_reducible exact Ext.refl _ | with_reducible apply Ext.drew | with_reducible apply Ext.drewN | with_reducible apply Ext.alloc | ((with_reducible refine Ext.setCell ?_ ?_ _); rotate_left; focus (first | (simp; done) | (simp; omega) | omega)) | with_reducible refine Ext.tr ?_ x1 | with_reducible assumption))⟩
  · have s := S.out
    have hb' : x < -9223372036854775808 ∨ 9223372036854775808 ≤ x := by omega
    rw [(sb_no hb').1, (sb_no hb').2] at s
    have S' := Lib.hid s
    have g : gd x = false := gd_f (by omega)
    rw [wv_no g, we_no g]
    clear s S hb hb' g
    go_enter Try.func55, Try.ntmps55
    go_wp2_with fail; refine (S'.out _ (H.out.ext (by repeat (first | with_reducible exact Ext.refl _ | with_reducible apply Ext.drew | with_reducible apply Ext.drewN | with_reducible apply Ext.alloc | ((with_reducible refine Ext.setCell ?_ ?_ _); rotate_left; focus (first | (simp; done) | (simp; omega) | omega)) | with_reducible refine Ext.tr ?_ x1 | with_reducible assumption)))).mono ?_; rintro e v1 ⟨rfl, x1⟩; obtain ⟨c1, f1⟩ := x1.rules; have z1 := x1.size
    go_wp2
    go_ret2
    exact ⟨rfl, (by repeat (first | with_reducible exact Ext.refl _ | with_reducible apply Ext.drew | with_reducible apply Ext.drewN | with_reducible apply Ext.alloc | ((with_reducible refine Ext.setCell ?_ ?_ _); rotate_left; focus (first | (simp; done) | (simp; omega) | omega)) | with_reducible refine Ext.tr ?_ x1 | with_reducible assumption))⟩
/-- x with the sign of d. -/
def sgd (d x : Int) : Int := if d < 0 then -x else x
end Go.Proofs.Ytjmecongccjcgaa
