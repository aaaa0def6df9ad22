/- Generators: Good, May, own, Below; copied, compared. -/
import Derived.Test.YtmbgaonnknaclaaRand
import Derived.Test.YtmbgaonnknaclaaGrown
import Derived.Test.YtmbgaonnknaclaaStEq
namespace Go.Proofs.Ytmbgaonnknaclaa
open Go.RowKit
attribute [local go_sem ↓] Go.wp_at_zero Go.wp_at_succ
def stz (s : St) : Bool := decide (iv s.a = 0) && decide (iv s.b = 0) && decide (iv s.c = 0) && decide (iv s.d = 0)
def goodG (g : Gen) : Bool := decide (g.script.length ≤ 4096) && !stz g.st
theorem good_len {g : Gen} (h : 4096 < g.script.length) : goodG g = false := by
  unfold goodG; rw [show decide (g.script.length ≤ 4096) = false by simp; omega]; rfl
theorem goodG_of {g : Gen} (h : g.script.length ≤ 4096) : goodG g = !stz g.st := by simp [goodG, h]
set_option maxRecDepth 100000 in
set_option maxHeartbeats 1000000 in
theorem good_rand {v : Value} {g : Gen} {w : World} (h : RandAt w v g) (hg : goodG g = true) :
    Calls Try.prog 51 #[v] w fun e w' => e = .returned (.bool true) ∧ Ext w w' := by
  obtain ⟨a, c, rfl, hr⟩ := h
  have hl : g.script.length ≤ 4096 := by simp [goodG] at hg; omega
  have hz : stz g.st = false := by rw [goodG_of hl] at hg; simpa using hg
  obtain ⟨sc, ⟨A, B, C, D⟩⟩ := g
  simp only at hr hl hz ⊢
  obtain ⟨a', cap, e, h1, h2, h3⟩ := hr
  cases e
  unfold maxLen at h2
  clear h3 hg
  simp only [stz] at hz
  generalize iv A = x0 at *
  generalize iv B = x1 at *
  generalize iv C = x2 at *
  generalize iv D = x3 at *
  have hzz : (!((x0 == (0 : Int)) && (x1 == (0 : Int)) && (x2 == (0 : Int)) && (x3 == (0 : Int)))) = true := by
    by_cases a0 : x0 = 0 <;> by_cases a1 : x1 = 0 <;> by_cases a2 : x2 = 0 <;> by_cases a3 : x3 = 0 <;> simp_all
  have R := fun (w : World) => run_ne4 w x0 x1 x2 x3 0 0 0 0
  rw [show (!((x0 == (0 : Int)) && (x1 == (0 : Int)) && (x2 == (0 : Int)) && (x3 == (0 : Int)))) = true from hzz] at R
  clear hz hzz
  go_enter Try.func51, Try.ntmps51
  go_wp2
  go_ret
  exact ⟨rfl, (by repeat (first | with_reducible exact Ext.refl _ | with_reducible apply Ext.drew | with_reducible apply Ext.drewN | with_reducible apply Ext.alloc | ((with_reducible refine Ext.setCell ?_ ?_ _); rotate_left; focus (first | (simp; done) | (simp; omega) | omega)) | with_reducible refine Ext.tr ?_ x1 | with_reducible refine Ext.tr ?_ x2 | with_reducible refine Ext.tr ?_ x3 | with_reducible assumption))⟩
set_option maxHeartbeats 1000000 in
theorem may_rand {v : Value} {g : Gen} {w : World} (h : RandAt w v g) :
    Calls Try.prog 8 #[v] w fun e w' => e = .returned (.bool (goodG g)) ∧ Ext w w' := by
  obtain ⟨a, c, rfl, hr⟩ := h
  rcases Nat.lt_or_ge 4096 g.script.length with hl | hl
  · have G := Lib.hid (good_len hl)
    obtain ⟨sc, ⟨A, B, C, D⟩⟩ := g
    simp only at hr hl ⊢
    obtain ⟨a', cap, e, h1, h2, h3⟩ := hr
    cases e
    unfold maxLen at h2
    clear h3
    go_enter Try.func8, Try.ntmps8
    go_wp2
    go_ret
    exact ⟨by rw [G.out]; rfl, (by repeat (first | with_reducible exact Ext.refl _ | with_reducible apply Ext.drew | with_reducible apply Ext.drewN | with_reducible apply Ext.alloc | ((with_reducible refine Ext.setCell ?_ ?_ _); rotate_left; focus (first | (simp; done) | (simp; omega) | omega)) | with_reducible refine Ext.tr ?_ x1 | with_reducible refine Ext.tr ?_ x2 | with_reducible refine Ext.tr ?_ x3 | with_reducible assumption))⟩
  · have G0 := goodG_of hl
    obtain ⟨sc, ⟨A, B, C, D⟩⟩ := g
    simp only at hr hl G0 ⊢
    obtain ⟨a', cap, e, h1, h2, h3⟩ := hr
    cases e
    unfold maxLen at h2
    clear h3
    simp only [stz] at G0
    generalize iv A = x0 at *
    generalize iv B = x1 at *
    generalize iv C = x2 at *
    generalize iv D = x3 at *
    by_cases h0 : x0 = 0
    · by_cases h1' : x1 = 0
      · by_cases h2' : x2 = 0
        · by_cases h3' : x3 = 0
          · have G : Hid (goodG ⟨sc, ⟨A, B, C, D⟩⟩ = false) := Lib.hid (by rw [G0]; simp [h0, h1', h2', h3'])
            clear G0
            subst h0 h1' h2' h3'
            go_enter Try.func8, Try.ntmps8
            go_wp2
            go_ret
            exact ⟨by rw [G.out]; rfl, (by repeat (first | with_reducible exact Ext.refl _ | with_reducible apply Ext.drew | with_reducible apply Ext.drewN | with_reducible apply Ext.alloc | ((with_reducible refine Ext.setCell ?_ ?_ _); rotate_left; focus (first | (simp; done) | (simp; omega) | omega)) | with_reducible refine Ext.tr ?_ x1 | with_reducible refine Ext.tr ?_ x2 | with_reducible refine Ext.tr ?_ x3 | with_reducible assumption))⟩
          · have G : Hid (goodG ⟨sc, ⟨A, B, C, D⟩⟩ = true) := Lib.hid (by rw [G0]; simp [h3'])
            have e3 : (x3 != 0) = true := by rw [bne_iff_ne]; exact h3'
            clear G0 h3'
            subst h0 h1' h2'
            go_enter Try.func8, Try.ntmps8
            go_wp2
            go_ret
            exact ⟨by rw [G.out]; rfl, (by repeat (first | with_reducible exact Ext.refl _ | with_reducible apply Ext.drew | with_reducible apply Ext.drewN | with_reducible apply Ext.alloc | ((with_reducible refine Ext.setCell ?_ ?_ _); rotate_left; focus (first | (simp; done) | (simp; omega) | omega)) | with_reducible refine Ext.tr ?_ x1 | with_reducible refine Ext.tr ?_ x2 | with_reducible refine Ext.tr ?_ x3 | with_reducible assumption))⟩
        · have G : Hid (goodG ⟨sc, ⟨A, B, C, D⟩⟩ = true) := Lib.hid (by rw [G0]; simp [h2'])
          have e3 : (x2 != 0) = true := by rw [bne_iff_ne]; exact h2'
          clear G0 h2'
          subst h0 h1'
          go_enter Try.func8, Try.ntmps8
          go_wp2
          go_ret
          exact ⟨by rw [G.out]; rfl, (by repeat (first | with_reducible exact Ext.refl _ | with_reducible apply Ext.drew | with_reducible apply Ext.drewN | with_reducible apply Ext.alloc | ((with_reducible refine Ext.setCell ?_ ?_ _); rotate_left; focus (first | (simp; done) | (simp; omega) | omega)) | with_reducible refine Ext.tr ?_ x1 | with_reducible refine Ext.tr ?_ x2 | with_reducible refine Ext.tr ?_ x3 | with_reducible assumption))⟩
      · have G : Hid (goodG ⟨sc, ⟨A, B, C, D⟩⟩ = true) := Lib.hid (by rw [G0]; simp [h1'])
        have e3 : (x1 != 0) = true := by rw [bne_iff_ne]; exact h1'
        clear G0 h1'
        subst h0
        go_enter Try.func8, Try.ntmps8
        go_wp2
        go_ret
        exact ⟨by rw [G.out]; rfl, (by repeat (first | with_reducible exact Ext.refl _ | with_reducible apply Ext.drew | with_reducible apply Ext.drewN | with_reducible apply Ext.alloc | ((with_reducible refine Ext.setCell ?_ ?_ _); rotate_left; focus (first | (simp; done) | (simp; omega) | omega)) | with_reducible refine Ext.tr ?_ x1 | with_reducible refine Ext.tr ?_ x2 | with_reducible refine Ext.tr ?_ x3 | with_reducible assumption))⟩
    · have G : Hid (goodG ⟨sc, ⟨A, B, C, D⟩⟩ = true) := Lib.hid (by rw [G0]; simp [h0])
      have e3 : (x0 != 0) = true := by rw [bne_iff_ne]; exact h0
      clear G0 h0
      go_enter Try.func8, Try.ntmps8
      go_wp2
      go_ret
      exact ⟨by rw [G.out]; rfl, (by repeat (first | with_reducible exact Ext.refl _ | with_reducible apply Ext.drew | with_reducible apply Ext.drewN | with_reducible apply Ext.alloc | ((with_reducible refine Ext.setCell ?_ ?_ _); rotate_left; focus (first | (simp; done) | (simp; omega) | omega)) | with_reducible refine Ext.tr ?_ x1 | with_reducible refine Ext.tr ?_ x2 | with_reducible refine Ext.tr ?_ x3 | with_reducible assumption))⟩
end Go.Proofs.Ytmbgaonnknaclaa
