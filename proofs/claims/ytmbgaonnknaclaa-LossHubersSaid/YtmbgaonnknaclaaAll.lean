/- Lists of tensors: elem.All. -/
import Derived.Test.YtmbgaonnknaclaaTens
namespace Go.Proofs.Ytmbgaonnknaclaa
open Go.RowKit
attribute [local go_sem ↓] Go.wp_at_zero Go.wp_at_succ
/-- Tensors one behind the other, each of two cells. -/
def TensAt (w : World) (a : Option Addr) (ts : List (List Int × List Int)) : Prop :=
  ∀ i t, ts[i]? = some t → ∃ b o s d, a = some ⟨b, o, none⟩ ∧ w.cell? ⟨b, o + i * 2, none⟩ = some s ∧ w.cell? ⟨b, o + i * 2 + 1, none⟩ = some d ∧ Row .i64 w s t.1 ∧ Row .i64 w d t.2
theorem TensAt.ext {w w' : World} {a : Option Addr} {ts : List (List Int × List Int)} (h : TensAt w a ts) (x : Ext w w') : TensAt w' a ts := fun i t hi => by
  obtain ⟨b, o, s, d, h1, h2, h3, h4, h5⟩ := h i t hi
  exact ⟨b, o, s, d, h1, x.cell h2, x.cell h3, h4.ext x, h5.ext x⟩
def tenP (t : List Int × List Int) : Bool := tenB t.1 t.2
theorem allT_bad {ts : List (List Int × List Int)} {k : Nat} {t : List Int × List Int} (hk : ts[k]? = some t) (h : tenP t = false) : ts.all tenP = false := by
  cases ha : ts.all tenP with
  | false => rfl
  | true => rw [List.all_eq_true.1 ha t (List.mem_of_getElem? hk)] at h; cases h
theorem allT_ok {ts : List (List Int × List Int)} (h : ∀ j t, j < ts.length → ts[j]? = some t → tenP t = true) : ts.all tenP = true := by
  refine List.all_eq_true.2 fun t ht => ?_
  obtain ⟨j, hj, rfl⟩ := List.getElem_of_mem ht
  exact h j _ hj (List.getElem?_eq_getElem hj)
theorem all1_any {s d : Value} {xs ds : List Int} {w : World} (hs : Row .i64 w s xs) (hd : Row .i64 w d ds) :
    Calls Try.prog 115 #[.agg #[s, d]] w fun e w' => e = .returned (.bool (!tenB xs ds)) ∧ Ext w w' := by
  have G := Lib.hid (fun u (x : Ext w u) => egood_any (hs.ext x) (hd.ext x))
  obtain ⟨a, ca, rfl, la⟩ := hs.form
  obtain ⟨b, cb, rfl, lb⟩ := hd.form
  clear hs hd
  go_enter Try.func115, Try.ntmps115
  go_wp2_with fail; refine (G.out _ (by repeat (first | with_reducible exact Ext.refl _ | with_reducible apply Ext.drew | with_reducible apply Ext.drewN | with_reducible apply Ext.alloc | ((with_reducible refine Ext.setCell ?_ ?_ _); rotate_left; focus (first | (simp; done) | (simp; omega) | omega)) | with_reducible refine Ext.tr ?_ x1 | with_reducible refine Ext.tr ?_ hx | with_reducible refine Ext.tr ?_ hext | with_reducible assumption))).mono ?_; rintro e v1 ⟨rfl, x1⟩; obtain ⟨c1, f1⟩ := x1.rules; have z1 := x1.size
  go_wp2
  go_ret
  exact ⟨rfl, (by repeat (first | with_reducible exact Ext.refl _ | with_reducible apply Ext.drew | with_reducible apply Ext.drewN | with_reducible apply Ext.alloc | ((with_reducible refine Ext.setCell ?_ ?_ _); rotate_left; focus (first | (simp; done) | (simp; omega) | omega)) | with_reducible refine Ext.tr ?_ x1 | with_reducible refine Ext.tr ?_ hx | with_reducible refine Ext.tr ?_ hext | with_reducible assumption))⟩
theorem indexT {a : Option Addr} {cap : Nat} {ts : List (List Int × List Int)} {w : World} (h : TensAt w a ts) (hl : ts.length ≤ 9223372036854775807) :
    Calls Try.prog 152 #[.slice a ts.length cap, .func (.func 115) #[] #[]] w fun e w' => (∃ k : Int, e = .returned (.int .i64 k) ∧ decide (0 ≤ k) = !(ts.all tenP)) ∧ Ext w w' := by
  have HT := Lib.hid h
  clear h
  have hcall : ∀ args u, (callFunc 115 args).run Try.prog u = .ok (.enter 115 args) u := enters_of Try.func115 (by kernel_rfl) rfl
  go_enter Try.func152, Try.ntmps152
  go_wp2_with fail
  go_loopw [8] (fun i wr => ∃ k : Nat, k ≤ ts.length ∧ i = .int .i64 k ∧ (∀ j t, j < k → ts[j]? = some t → tenP t = true) ∧ Ext w wr) (fun i _ => ts.length - (intOf i).toNat)
  case atStart => exact ⟨0, Nat.zero_le _, rfl, fun j t hj => by omega, Ext.refl _⟩
  case round =>
    obtain ⟨k, hk, rfl, hd, hext⟩ := hrel
    have HD := Lib.hid hd
    clear hd
    rcases Nat.lt_or_ge k ts.length with hlt | hge
    · obtain ⟨t, ht⟩ : ∃ t, ts[k]? = some t := ⟨_, List.getElem?_eq_getElem hlt⟩
      obtain ⟨b, o, s, d, rfl, c1, c2, r1, r2⟩ := (HT.out.ext hext) k t ht
      have A := Lib.hid (fun u (x : Ext wr u) => all1_any (r1.ext x) (r2.ext x))
      have BAD := Lib.hid (allT_bad ht)
      have HTT := Lib.hid ht
      obtain ⟨a1, ca1, rfl, la1⟩ := r1.form
      obtain ⟨a2, ca2, rfl, la2⟩ := r2.form
      clear r1 r2 ht
      change Hid (∀ u (x : Ext wr u), Calls Try.prog 115 _ u fun e w' => e = .returned (.bool (!tenP t)) ∧ Ext u w') at A
      cases hg : tenP t
      · have B := Lib.hid (BAD.out hg)
        rw [hg] at A
        clear BAD hg
        go_wp2_with fail; refine (A.out _ (by repeat (first | with_reducible exact Ext.refl _ | with_reducible apply Ext.drew | with_reducible apply Ext.drewN | with_reducible apply Ext.alloc | ((with_reducible refine Ext.setCell ?_ ?_ _); rotate_left; focus (first | (simp; done) | (simp; omega) | omega)) | with_reducible refine Ext.tr ?_ x1 | with_reducible refine Ext.tr ?_ hx | with_reducible refine Ext.tr ?_ hext | with_reducible assumption))).mono ?_; rintro e v1 ⟨rfl, x1⟩; obtain ⟨c1, f1⟩ := x1.rules; have z1 := x1.size
        go_wp2
        go_ret
        exact ⟨⟨k, rfl, by rw [B.out]; simp⟩, (by repeat (first | with_reducible exact Ext.refl _ | with_reducible apply Ext.drew | with_reducible apply Ext.drewN | with_reducible apply Ext.alloc | ((with_reducible refine Ext.setCell ?_ ?_ _); rotate_left; focus (first | (simp; done) | (simp; omega) | omega)) | with_reducible refine Ext.tr ?_ x1 | with_reducible refine Ext.tr ?_ hx | with_reducible refine Ext.tr ?_ hext | with_reducible assumption))⟩
      · have NEW : Hid (∀ j t, j < k + 1 → ts[j]? = some t → tenP t = true) := Lib.hid (fun j t hj ht => by
          rcases Nat.lt_succ_iff_lt_or_eq.1 hj with h | rfl
          · exact HD.out j t h ht
          · rw [HTT.out] at ht; cases ht; exact hg)
        rw [hg] at A
        clear BAD HD hg
        go_wp2_with fail; refine (A.out _ (by repeat (first | with_reducible exact Ext.refl _ | with_reducible apply Ext.drew | with_reducible apply Ext.drewN | with_reducible apply Ext.alloc | ((with_reducible refine Ext.setCell ?_ ?_ _); rotate_left; focus (first | (simp; done) | (simp; omega) | omega)) | with_reducible refine Ext.tr ?_ x1 | with_reducible refine Ext.tr ?_ hx | with_reducible refine Ext.tr ?_ hext | with_reducible assumption))).mono ?_; rintro e v1 ⟨rfl, x1⟩; obtain ⟨c1, f1⟩ := x1.rules; have z1 := x1.size
        go_wp2
        go_roundw
        case rel => exact ⟨k + 1, by omega, by go_num, NEW.out, (by repeat (first | with_reducible exact Ext.refl _ | with_reducible apply Ext.drew | with_reducible apply Ext.drewN | with_reducible apply Ext.alloc | ((with_reducible refine Ext.setCell ?_ ?_ _); rotate_left; focus (first | (simp; done) | (simp; omega) | omega)) | with_reducible refine Ext.tr ?_ x1 | with_reducible refine Ext.tr ?_ hx | with_reducible refine Ext.tr ?_ hext | with_reducible assumption))⟩
        case measure => simp [intOf]; omega
    · obtain rfl : k = ts.length := by omega
      have E := Lib.hid (allT_ok HD.out)
      go_wp2
      go_ret
      exact ⟨⟨-1, rfl, by rw [E.out]; rfl⟩, hext⟩
theorem eall_any {a : Option Addr} {cap : Nat} {ts : List (List Int × List Int)} {w : World} (h : TensAt w a ts) (hl : ts.length ≤ 9223372036854775807) :
    Calls Try.prog 74 #[.slice a ts.length cap] w fun e w' => e = .returned (.bool (ts.all tenP)) ∧ Ext w w' := by
  have C : Hid (∀ v, Ext w v → Calls Try.prog 114 #[.slice a ts.length cap, .func (.func 115) #[] #[]] v fun e w' => e = .returned (.bool (!ts.all tenP)) ∧ Ext v w') := Lib.hid (fun v xv => by
    have I := Lib.hid (indexT (cap := cap) (h.ext xv) hl)
    go_enter Try.func114, Try.ntmps114
    go_wp2_with fail
    refine I.out.mono ?_
    rintro e w' ⟨⟨k, rfl, hk⟩, hx⟩
    have HK := Lib.hid hk
    clear hk
    go_wp2
    go_ret
    exact ⟨by rw [← HK.out]; rfl, hx⟩)
  clear h
  go_enter Try.func74, Try.ntmps74
  go_wp2_with fail; refine (C.out _ (by repeat (first | with_reducible exact Ext.refl _ | with_reducible apply Ext.drew | with_reducible apply Ext.drewN | with_reducible apply Ext.alloc | ((with_reducible refine Ext.setCell ?_ ?_ _); rotate_left; focus (first | (simp; done) | (simp; omega) | omega)) | with_reducible refine Ext.tr ?_ x1 | with_reducible refine Ext.tr ?_ hx | with_reducible refine Ext.tr ?_ hext | with_reducible assumption))).mono ?_; rintro e v1 ⟨rfl, x1⟩; obtain ⟨c1, f1⟩ := x1.rules; have z1 := x1.size
  go_wp2
  go_ret
  exact ⟨by cases ts.all tenP <;> rfl, (by repeat (first | with_reducible exact Ext.refl _ | with_reducible apply Ext.drew | with_reducible apply Ext.drewN | with_reducible apply Ext.alloc | ((with_reducible refine Ext.setCell ?_ ?_ _); rotate_left; focus (first | (simp; done) | (simp; omega) | omega)) | with_reducible refine Ext.tr ?_ x1 | with_reducible refine Ext.tr ?_ hx | with_reducible refine Ext.tr ?_ hext | with_reducible assumption))⟩
end Go.Proofs.Ytmbgaonnknaclaa
