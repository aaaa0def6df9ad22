/- Tensors: what the references' May and the program's Good tell; slices.ContainsFunc over words and tensors. -/
import Derived.Test.YtapmldoehbeedaaGreatQShps
import Derived.Test.YtapmldoehbeedaaGreatQReckon
namespace Go.Proofs.YtapmldoehbeedaaGreat
open Go.RowKit
attribute [local go_sem ↓] Go.wp_at_zero Go.wp_at_succ
/-- A tensor that may be. -/
def tenB (xs ds : List Int) : Bool := shp xs && decide ((ds.length : Int) = pr xs) && ds.all gd
theorem all_bad {ds : List Int} (k : Nat) (hk : k < ds.length) (h : gd (ds.getD k 0) = false) : ds.all gd = false := by
  cases ha : ds.all gd with
  | false => rfl
  | true => rw [List.all_eq_true.1 ha _ (getD_mem ds k hk)] at h; cases h
theorem all_ok {ds : List Int} (h : ∀ j, j < ds.length → gd (ds.getD j 0) = true) : ds.all gd = true := by
  refine List.all_eq_true.2 fun d hd => ?_
  obtain ⟨j, hj, rfl⟩ := List.getElem_of_mem hd
  have := h j hj
  rwa [List.getD_eq_getElem?_getD, List.getElem?_eq_getElem hj] at this
theorem words_any {u : Value} {ds : List Int} {w : World} (hx : Row .i64 w u ds) :
    Calls Tryz.prog 83 #[u] w fun e w' => e = .returned (.bool (ds.all gd)) ∧ w = w' := by
  obtain ⟨a, cap, rfl, hx1, hx2, hx3⟩ := hx
  unfold maxLen at hx2
  have HX := Lib.hid hx3
  clear hx3
  go_enter Tryz.func83, Tryz.ntmps83
  go_wp2_with fail
  go_loop [3] (fun i => ∃ k : Nat, k ≤ ds.length ∧ i = .int .i64 k ∧ ∀ j, j < k → gd (ds.getD j 0) = true) (fun i => ds.length - (intOf i).toNat)
  case atStart => exact ⟨0, Nat.zero_le _, rfl, fun j hj => by omega⟩
  case round =>
    obtain ⟨k, hk, rfl, hd⟩ := hrel
    have HD := Lib.hid hd
    clear hd
    rcases Nat.lt_or_ge k ds.length with hlt | hge
    · obtain ⟨bx, ox, rfl, cx⟩ := HX.out (fun h => by subst h; simp at hlt)
      have c1 := cx k hlt
      have BAD := Lib.hid (all_bad k hlt)
      clear cx
      cases hg : gd (ds.getD k 0)
      · have B := Lib.hid (BAD.out hg)
        generalize ds.getD k 0 = d at c1 hg
        clear BAD
        go_wp2_with fail; refine (may2_any _ _).mono ?_; rintro e w' ⟨rfl, rfl⟩
        go_wp2
        go_ret
        exact ⟨by rw [B.out]; rfl, rfl⟩
      · have NEW : Hid (∀ j, j < k + 1 → gd (ds.getD j 0) = true) := Lib.hid (fun j hj => by
          rcases Nat.lt_succ_iff_lt_or_eq.1 hj with h | rfl
          · exact HD.out j h
          · exact hg)
        generalize ds.getD k 0 = d at c1 hg
        clear BAD HD
        go_wp2_with fail; refine (may2_any _ _).mono ?_; rintro e w' ⟨rfl, rfl⟩
        go_wp2
        go_round
        case rel => exact ⟨k + 1, by omega, by go_num, NEW.out⟩
        case measure => simp [intOf]; omega
    · obtain rfl : k = ds.length := by omega
      have E := Lib.hid (all_ok HD.out)
      go_wp2
      go_ret
      exact ⟨by rw [E.out]; rfl, rfl⟩
/-- IndexFunc over words, by a function of words that tells whether one is none. -/
theorem index64 {u : Value} {ds : List Int} {w : World} (hx : Row .i64 w u ds) (hl : ds.length ≤ 9223372036854775807) :
    Calls Tryz.prog 270 #[u, .func (.func 224) #[] #[]] w fun e w' => (∃ k : Int, e = .returned (.int .i64 k) ∧ decide (0 ≤ k) = !(ds.all gd)) ∧ w = w' := by
  have G : Hid (∀ (x : Int) (u : World), Calls Tryz.prog 224 #[.int .i64 x] u fun e u' => e = .returned (.bool (!gd x)) ∧ u = u') := Lib.hid (fun x u => by
    go_enter Tryz.func224, Tryz.ntmps224
    go_wp2_with fail; refine (good_any _ _).mono ?_; rintro e w' ⟨rfl, rfl⟩
    go_wp2
    go_ret
    exact ⟨rfl, rfl⟩)
  obtain ⟨a, cap, rfl, hx1, hx2, hx3⟩ := hx
  unfold maxLen at hx2
  have HX := Lib.hid hx3
  clear hx3
  have hcall : ∀ args u, (callFunc 224 args).run Tryz.prog u = .ok (.enter 224 args) u := enters_of Tryz.func224 (by kernel_rfl) rfl
  go_enter Tryz.func270, Tryz.ntmps270
  go_wp2_with fail
  go_loop [8] (fun i => ∃ k : Nat, k ≤ ds.length ∧ i = .int .i64 k ∧ ∀ j, j < k → gd (ds.getD j 0) = true) (fun i => ds.length - (intOf i).toNat)
  case atStart => exact ⟨0, Nat.zero_le _, rfl, fun j hj => by omega⟩
  case round =>
    obtain ⟨k, hk, rfl, hd⟩ := hrel
    have HD := Lib.hid hd
    clear hd
    rcases Nat.lt_or_ge k ds.length with hlt | hge
    · obtain ⟨bx, ox, rfl, cx⟩ := HX.out (fun h => by subst h; simp at hlt)
      have c1 := cx k hlt
      have BAD := Lib.hid (all_bad k hlt)
      clear cx
      cases hg : gd (ds.getD k 0)
      · have B := Lib.hid (BAD.out hg)
        generalize ds.getD k 0 = d at c1 hg
        clear BAD
        go_wp2_with fail; refine (G.out _ _).mono ?_; rintro e w' ⟨rfl, rfl⟩
        go_wp2
        go_ret
        exact ⟨⟨k, rfl, by rw [B.out]; simp⟩, rfl⟩
      · have NEW : Hid (∀ j, j < k + 1 → gd (ds.getD j 0) = true) := Lib.hid (fun j hj => by
          rcases Nat.lt_succ_iff_lt_or_eq.1 hj with h | rfl
          · exact HD.out j h
          · exact hg)
        generalize ds.getD k 0 = d at c1 hg
        clear BAD HD
        go_wp2_with fail; refine (G.out _ _).mono ?_; rintro e w' ⟨rfl, rfl⟩
        go_wp2
        go_round
        case rel => exact ⟨k + 1, by omega, by go_num, NEW.out⟩
        case measure => simp [intOf]; omega
    · obtain rfl : k = ds.length := by omega
      have E := Lib.hid (all_ok HD.out)
      go_wp2
      go_ret
      exact ⟨⟨-1, rfl, by rw [E.out]; rfl⟩, rfl⟩
theorem contains64 {u : Value} {ds : List Int} {w : World} (hx : Row .i64 w u ds) :
    Calls Tryz.prog 223 #[u, .func (.func 224) #[] #[]] w fun e w' => e = .returned (.bool (!ds.all gd)) ∧ w = w' := by
  have I := Lib.hid (index64 hx (by obtain ⟨_, cap, _, h1, h2, _⟩ := hx; unfold maxLen at h2; omega))
  go_enter Tryz.func223, Tryz.ntmps223
  go_wp2_with fail
  refine I.out.mono ?_
  rintro e w' ⟨⟨k, rfl, hk⟩, rfl⟩
  have HK := Lib.hid hk
  clear hk
  go_wp2
  go_ret
  exact ⟨by rw [← HK.out]; rfl, rfl⟩
theorem ten_shp {xs ds : List Int} (h : shp xs = false) : tenB xs ds = false := by simp [tenB, h]
theorem ten_len {xs ds : List Int} (h : decide ((ds.length : Int) = pr xs) = false) : tenB xs ds = false := by simp [tenB, h]
theorem ten_all {xs ds : List Int} (h : shp xs = true) (h2 : decide ((ds.length : Int) = pr xs) = true) : tenB xs ds = ds.all gd := by simp [tenB, h, h2]
theorem Row.form {k : IntKind} {w : World} {v : Value} {ds : List Int} (h : Row k w v ds) : ∃ a cap, v = .slice a ds.length cap ∧ ds.length ≤ 9223372036854775807 := by
  obtain ⟨a, cap, rfl, h1, h2, -⟩ := h
  exact ⟨a, cap, rfl, by unfold maxLen at h2; omega⟩
set_option maxHeartbeats 2000000 in
theorem may8_any {s d : Value} {xs ds : List Int} {w : World} (hs : Row .i64 w s xs) (hd : Row .i64 w d ds) :
    Calls Tryz.prog 14 #[.agg #[s, d]] w fun e w' => e = .returned (.bool (tenB xs ds)) ∧ Ext w w' := by
  have HS := Lib.hid hs
  have HD := Lib.hid hd
  have M := Lib.hid (fun u (x : Ext w u) => may6_any (HS.out.ext x))
  have C := Lib.hid (fun u (x : Ext w u) h => count_any (HS.out.ext x) h)
  have W := Lib.hid (fun u (x : Ext w u) => words_any (HD.out.ext x))
  obtain ⟨a, ca, rfl, la⟩ := hs.form
  obtain ⟨b, cb, rfl, lb⟩ := hd.form
  clear hs hd HS HD
  cases h1 : shp xs
  · have E := Lib.hid (ten_shp (ds := ds) h1)
    go_enter Tryz.func14, Tryz.ntmps14
    go_wp2
    go_quiet (first | (go_at_call 33; exact q0 (M.out _ (by repeat (first | (with_reducible first | exact Ext.refl _ | apply Ext.drew | apply Ext.drewN | apply Ext.alloc) | ((with_reducible refine Ext.setCell ?_ ?_ _); rotate_left; focus (first | (simp; done) | (simp; omega) | omega)) | (with_reducible first | refine Ext.tr ?_ hx | assumption))))))
    go_wp2
    go_ret
    exact ⟨by rw [E.out]; rfl, (by repeat (first | (with_reducible first | exact Ext.refl _ | apply Ext.drew | apply Ext.drewN | apply Ext.alloc) | ((with_reducible refine Ext.setCell ?_ ?_ _); rotate_left; focus (first | (simp; done) | (simp; omega) | omega)) | (with_reducible first | refine Ext.tr ?_ hx | assumption)))⟩
  · obtain ⟨hD, hp⟩ := shp_dims h1
    have ec : cnt xs = pr xs := if_pos hp
    have C' := Lib.hid (fun u x => C.out u x hD)
    rw [ec] at C'
    clear C
    cases h2 : decide ((ds.length : Int) = pr xs)
    · have E := Lib.hid (ten_len h2)
      have hb : ((ds.length : Int) == pr xs) = false := by simpa using h2
      clear h2 hD hp ec
      generalize pr xs = p at C' hb
      go_enter Tryz.func14, Tryz.ntmps14
      go_wp2
      go_quiet (first | (go_at_call 33; exact q0 (M.out _ (by repeat (first | (with_reducible first | exact Ext.refl _ | apply Ext.drew | apply Ext.drewN | apply Ext.alloc) | ((with_reducible refine Ext.setCell ?_ ?_ _); rotate_left; focus (first | (simp; done) | (simp; omega) | omega)) | (with_reducible first | refine Ext.tr ?_ hx | assumption))))) | (go_at_call 82; exact q0 (C'.out _ (by repeat (first | (with_reducible first | exact Ext.refl _ | apply Ext.drew | apply Ext.drewN | apply Ext.alloc) | ((with_reducible refine Ext.setCell ?_ ?_ _); rotate_left; focus (first | (simp; done) | (simp; omega) | omega)) | (with_reducible first | refine Ext.tr ?_ hx | assumption))))))
      go_wp2
      go_ret
      exact ⟨by rw [E.out]; rfl, (by repeat (first | (with_reducible first | exact Ext.refl _ | apply Ext.drew | apply Ext.drewN | apply Ext.alloc) | ((with_reducible refine Ext.setCell ?_ ?_ _); rotate_left; focus (first | (simp; done) | (simp; omega) | omega)) | (with_reducible first | refine Ext.tr ?_ hx | assumption)))⟩
    · have E := Lib.hid (ten_all h1 h2)
      have hb : ((ds.length : Int) == pr xs) = true := by simpa using h2
      clear h2 hD hp ec
      generalize pr xs = p at C' hb
      generalize hg : ds.all gd = g at W E
      clear hg
      go_enter Tryz.func14, Tryz.ntmps14
      go_wp2
      go_quiet (first | (go_at_call 33; exact q0 (M.out _ (by repeat (first | (with_reducible first | exact Ext.refl _ | apply Ext.drew | apply Ext.drewN | apply Ext.alloc) | ((with_reducible refine Ext.setCell ?_ ?_ _); rotate_left; focus (first | (simp; done) | (simp; omega) | omega)) | (with_reducible first | refine Ext.tr ?_ hx | assumption))))) | (go_at_call 82; exact q0 (C'.out _ (by repeat (first | (with_reducible first | exact Ext.refl _ | apply Ext.drew | apply Ext.drewN | apply Ext.alloc) | ((with_reducible refine Ext.setCell ?_ ?_ _); rotate_left; focus (first | (simp; done) | (simp; omega) | omega)) | (with_reducible first | refine Ext.tr ?_ hx | assumption))))) | (go_at_call 83; exact q0 (W.out _ (by repeat (first | (with_reducible first | exact Ext.refl _ | apply Ext.drew | apply Ext.drewN | apply Ext.alloc) | ((with_reducible refine Ext.setCell ?_ ?_ _); rotate_left; focus (first | (simp; done) | (simp; omega) | omega)) | (with_reducible first | refine Ext.tr ?_ hx | assumption))))))
      go_wp2
      go_ret
      exact ⟨by rw [E.out]; rfl, (by repeat (first | (with_reducible first | exact Ext.refl _ | apply Ext.drew | apply Ext.drewN | apply Ext.alloc) | ((with_reducible refine Ext.setCell ?_ ?_ _); rotate_left; focus (first | (simp; done) | (simp; omega) | omega)) | (with_reducible first | refine Ext.tr ?_ hx | assumption)))⟩
end Go.Proofs.YtapmldoehbeedaaGreat
