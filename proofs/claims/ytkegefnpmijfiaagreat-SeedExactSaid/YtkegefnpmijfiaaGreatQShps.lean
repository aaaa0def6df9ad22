/- Layer 26 (def), the plain law: what a text says. No function of the program is named here. Strings as lists of bytes; rows of values; def.wordsOf. def.number, def.is, ratchetref26.number. ratchetref26.number; def.is. Shapes: Good, Size of the program; May, Count of the references: what they tell of a list of numbers. Layer 27 (infer), the plain law: shapes and parameters of layers. No function of the program is named here. append of a row of numbers that came in (nil, too) onto an own row. No function of the program is named here. slices.Repeat of a slice of one number, once or twice. infer's small functions: Fits, Square (slices.Repeat). -/
import Derived.Test.YtkegefnpmijfiaaGreatQBase
import Derived.Test.YtkegefnpmijfiaaGreatQClonesG
import Derived.Test.YtkegefnpmijfiaaGreatQLists
import Derived.Test.YtkegefnpmijfiaaGreatQGbI
import Derived.Test.YtkegefnpmijfiaaGreatQFx
import Derived.Laws.DeepStrings4
import Derived.BigQuiet
import Derived.Deep.DeepCutAuto
import Derived.Lib.ItoaNum
import Derived.Laws.AppendOwnNone
import Derived.Laws.CopyOwn
import Derived.LoopN
import Derived.Deep.RegionLaw
import Derived.BigRegion
import Derived.Deep.RegionHeld3
import Derived.Deep.DrawnRows
import Derived.Deep.QuietTactic
namespace Go.Proofs.YtkegefnpmijfiaaGreat
abbrev Bs := List UInt8
end Go.Proofs.YtkegefnpmijfiaaGreat
namespace Go.Proofs.YtkegefnpmijfiaaGreat
open Go.RowKit
/-- A list of bytes as a string. -/
def ba (l : Bs) : ByteArray := ⟨l.toArray⟩
end Go.Proofs.YtkegefnpmijfiaaGreat
namespace Go.Proofs.YtkegefnpmijfiaaGreat
open Go.RowKit
end Go.Proofs.YtkegefnpmijfiaaGreat
namespace Go.Proofs.YtkegefnpmijfiaaGreat
open Go.RowKit
end Go.Proofs.YtkegefnpmijfiaaGreat
namespace Go.Proofs.YtkegefnpmijfiaaGreat
open Go.RowKit
/-- The product of a list. -/
def pr (ds : List Int) : Int := ds.foldl (· * ·) 1
theorem pr_snoc (ds : List Int) (d : Int) : pr (ds ++ [d]) = pr ds * d := by unfold pr; rw [List.foldl_append]; rfl
def dimB (d : Int) : Bool := decide (1 ≤ d ∧ d ≤ 4096)
/-- Dimensions, not too many. -/
def Dims (xs : List Int) : Prop := xs.length ≤ 4 ∧ ∀ d ∈ xs, 1 ≤ d ∧ d ≤ 4096
/-- A shape. -/
def shp (xs : List Int) : Bool := decide (xs.length ≤ 4) && xs.all dimB && decide (pr xs ≤ 65536)
theorem shp_dims {xs : List Int} (h : shp xs = true) : Dims xs ∧ pr xs ≤ 65536 := by
  simp only [shp, Bool.and_eq_true, decide_eq_true_eq, List.all_eq_true] at h
  exact ⟨⟨h.1.1, fun d hd => by have := h.1.2 d hd; simpa [dimB] using this⟩, h.2⟩
theorem shp_of {xs : List Int} (h : Dims xs) : shp xs = decide (pr xs ≤ 65536) := by
  have h1 : xs.all dimB = true := List.all_eq_true.2 fun d hd => by simpa [dimB] using h.2 d hd
  simp [shp, h.1, h1]
theorem shp_len {xs : List Int} (h : 4 < xs.length) : shp xs = false := by simp [shp]; omega
theorem shp_bad {xs : List Int} (k : Nat) (hk : k < xs.length) (h : xs.getD k 0 < 1 ∨ 4096 < xs.getD k 0) : shp xs = false := by
  cases hs : shp xs with
  | false => rfl
  | true => have := (shp_dims hs).1.2 _ (getD_mem xs k hk); omega
theorem pow4096 {n : Nat} (h : n ≤ 4) : (4096 : Int) ^ n ≤ 281474976710656 := by
  rcases (by omega : n = 0 ∨ n = 1 ∨ n = 2 ∨ n = 3 ∨ n = 4) with rfl | rfl | rfl | rfl | rfl <;> decide
theorem pr_bd : ∀ (n : Nat) (xs : List Int), xs.length = n → (∀ d ∈ xs, 1 ≤ d ∧ d ≤ 4096) → 1 ≤ pr xs ∧ pr xs ≤ 4096 ^ n
  | 0, xs, h, _ => by obtain rfl := List.length_eq_zero_iff.1 h; simp [pr]
  | n + 1, xs, h, hd => by
    have hn : xs ≠ [] := fun e => by subst e; simp at h
    obtain ⟨ys, y, rfl⟩ : ∃ ys y, xs = ys ++ [y] := ⟨xs.dropLast, xs.getLast hn, (List.dropLast_concat_getLast hn).symm⟩
    obtain ⟨h1, h2⟩ := pr_bd n ys (by simpa using h) (fun d hdm => hd d (by simp [hdm]))
    obtain ⟨h3, h4⟩ := hd y (by simp)
    rw [pr_snoc, Int.pow_succ]
    have := Int.mul_le_mul h2 h4 (by omega) (by omega)
    have e := Int.mul_le_mul h1 h3 (by omega) (by omega)
    omega
theorem Dims.take {xs : List Int} (h : Dims xs) (k : Nat) : 1 ≤ pr (xs.take k) ∧ pr (xs.take k) ≤ 281474976710656 := by
  obtain ⟨h1, h2⟩ := pr_bd _ (xs.take k) rfl (fun d hd => h.2 d (List.mem_of_mem_take hd))
  exact ⟨h1, Int.le_trans h2 (pow4096 (by rw [List.length_take]; have := h.1; omega))⟩
theorem Dims.at {xs : List Int} (h : Dims xs) (k : Nat) (hk : k < xs.length) : 1 ≤ xs.getD k 0 ∧ xs.getD k 0 ≤ 4096 := h.2 _ (getD_mem xs k hk)
/-- What a partial product is bounded by, dimension by dimension. -/
theorem part_bd {xs : List Int} {k : Nat} (hl : xs.length ≤ 4) (h : ∀ j, j < k → 1 ≤ xs.getD j 0 ∧ xs.getD j 0 ≤ 4096) (hk : k ≤ xs.length) : 1 ≤ pr (xs.take k) ∧ pr (xs.take k) ≤ 281474976710656 := by
  obtain ⟨h1, h2⟩ := pr_bd _ (xs.take k) rfl (fun d hd => by
    obtain ⟨j, hj, rfl⟩ := List.getElem_of_mem hd
    rw [List.length_take] at hj
    have := h j (by omega)
    rw [List.getD_eq_getElem?_getD, List.getElem?_eq_getElem (by omega)] at this
    simpa using this)
  exact ⟨h1, Int.le_trans h2 (pow4096 (by rw [List.length_take]; omega))⟩
theorem pr_mono {xs : List Int} (h : Dims xs) (k : Nat) (hk : k ≤ xs.length) : pr (xs.take k) ≤ pr xs := by
  obtain ⟨n, hn⟩ : ∃ n, xs.length = k + n := ⟨xs.length - k, by omega⟩
  induction n generalizing k with
  | zero => rw [List.take_of_length_le (by omega)]; exact Int.le_refl _
  | succ n ih =>
    refine Int.le_trans ?_ (ih (k + 1) (by omega) (by omega))
    rw [take_succ_getD xs k (by omega), pr_snoc]
    have h1 := (h.take k).1
    have h2 := (h.at k (by omega)).1
    have := Int.mul_le_mul_of_nonneg_left h2 (show 0 ≤ pr (xs.take k) by omega)
    omega
theorem mul_dim {p d : Int} (h1 : 1 ≤ p) (h2 : p ≤ 281474976710656) (h3 : 1 ≤ d) (h4 : d ≤ 4096) : 1 ≤ p * d ∧ p * d ≤ 1152921504606846976 := by
  have a := Int.mul_le_mul h1 h3 (by omega) (by omega)
  have b := Int.mul_le_mul h2 h4 (by omega) (by omega)
  omega
theorem good_len {u : Value} {xs : List Int} {w : World} (hx : Row .i64 w u xs) (hl : 4 < xs.length) :
    Calls Tryz.prog 126 #[u] w fun e w' => e = .returned (.bool false) ∧ w = w' := by
  obtain ⟨a, cap, rfl, hx1, hx2, hx3⟩ := hx
  unfold maxLen at hx2
  clear hx3
  go_enter Tryz.func126, Tryz.ntmps126
  go_wp2
  go_ret
  exact ⟨rfl, rfl⟩
theorem sgood_any {u : Value} {xs : List Int} {w : World} (hx : Row .i64 w u xs) :
    Calls Tryz.prog 126 #[u] w fun e w' => e = .returned (.bool (shp xs)) ∧ w = w' := by
  rcases Nat.lt_or_ge 4 xs.length with hl | hl
  · rw [shp_len hl]; exact good_len hx hl
  obtain ⟨a, cap, rfl, hx1, hx2, hx3⟩ := hx
  unfold maxLen at hx2
  have HX := Lib.hid hx3
  clear hx3
  go_enter Tryz.func126, Tryz.ntmps126
  go_wp2_with fail
  go_loop [3, 11] (fun p i => ∃ k : Nat, k ≤ xs.length ∧ i = .int .i64 k ∧ p = .int .i64 (pr (xs.take k)) ∧ ∀ j, j < k → 1 ≤ xs.getD j 0 ∧ xs.getD j 0 ≤ 4096) (fun _ i => xs.length - (intOf i).toNat)
  case atStart => exact ⟨0, Nat.zero_le _, rfl, rfl, fun j hj => by omega⟩
  case round =>
    obtain ⟨k, hk, rfl, rfl, hd⟩ := hrel
    obtain ⟨p1, p2⟩ := part_bd hl hd hk
    have HD := Lib.hid hd
    clear hd
    rcases Nat.lt_or_ge k xs.length with hlt | hge
    · obtain ⟨bx, ox, rfl, cx⟩ := HX.out (fun h => by subst h; simp at hlt)
      have c1 := cx k hlt
      have T1 := Lib.hid (take_succ_getD xs k hlt)
      have BAD := Lib.hid (shp_bad k hlt)
      clear cx
      by_cases h1 : 1 ≤ xs.getD k 0
      · by_cases h2 : xs.getD k 0 ≤ 4096
        · obtain ⟨m1, m2⟩ := mul_dim p1 p2 h1 h2
          have NEW : Hid (∀ j, j < k + 1 → 1 ≤ xs.getD j 0 ∧ xs.getD j 0 ≤ 4096) := Lib.hid (fun j hj => by
            rcases Nat.lt_succ_iff_lt_or_eq.1 hj with h | rfl
            · exact HD.out j h
            · exact ⟨h1, h2⟩)
          have PR : Hid (pr (xs.take (k + 1)) = pr (xs.take k) * xs.getD k 0) := Lib.hid (by rw [T1.out, pr_snoc])
          clear T1 BAD HD
          generalize xs.getD k 0 = d at c1 h1 h2 m1 m2 PR
          generalize pr (xs.take k) = p at p1 p2 m1 m2 PR ⊢
          go_wp2
          go_round
          case rel => exact ⟨k + 1, by omega, by go_num, by rw [PR.out], NEW.out⟩
          case measure => simp [intOf]; omega
        · have B := Lib.hid (BAD.out (.inr (by omega)))
          generalize xs.getD k 0 = d at c1 h1 h2
          generalize pr (xs.take k) = p at p1 p2 ⊢
          clear T1 BAD
          go_wp2
          go_ret
          exact ⟨by rw [B.out]; rfl, rfl⟩
      · have B := Lib.hid (BAD.out (.inl (by omega)))
        generalize xs.getD k 0 = d at c1 h1
        generalize pr (xs.take k) = p at p1 p2 ⊢
        clear T1 BAD
        go_wp2
        go_ret
        exact ⟨by rw [B.out]; rfl, rfl⟩
    · obtain rfl : k = xs.length := by omega
      have DM : Hid (Dims xs) := Lib.hid ⟨hl, fun d hd => by
        obtain ⟨j, hj, rfl⟩ := List.getElem_of_mem hd
        have := HD.out j hj
        rw [List.getD_eq_getElem?_getD, List.getElem?_eq_getElem hj] at this
        simpa using this⟩
      have E := Lib.hid (shp_of DM.out)
      rw [List.take_of_length_le (Nat.le_refl _)] at p1 p2 ⊢
      generalize pr xs = p at p1 p2 E ⊢
      by_cases hp : p ≤ 65536
      · have EE : Hid (shp xs = true) := Lib.hid (by rw [E.out]; simpa using hp)
        clear E
        go_wp2
        go_ret
        exact ⟨by rw [EE.out]; rfl, rfl⟩
      · have EE : Hid (shp xs = false) := Lib.hid (by rw [E.out]; simpa using hp)
        clear E
        go_wp2
        go_ret
        exact ⟨by rw [EE.out]; rfl, rfl⟩
theorem size_any {u : Value} {xs : List Int} {w : World} (hx : Row .i64 w u xs) (hD : Dims xs) :
    Calls Tryz.prog 164 #[u] w fun e w' => e = .returned (.int .i64 (pr xs)) ∧ w = w' := by
  obtain ⟨a, cap, rfl, hx1, hx2, hx3⟩ := hx
  unfold maxLen at hx2
  have HX := Lib.hid hx3
  have HD := Lib.hid hD
  clear hx3 hD
  go_enter Tryz.func164, Tryz.ntmps164
  go_wp2_with fail
  go_loop [3, 8] (fun p i => ∃ k : Nat, k ≤ xs.length ∧ i = .int .i64 k ∧ p = .int .i64 (pr (xs.take k))) (fun _ i => xs.length - (intOf i).toNat)
  case atStart => exact ⟨0, Nat.zero_le _, rfl, rfl⟩
  case round =>
    obtain ⟨k, hk, rfl, rfl⟩ := hrel
    obtain ⟨p1, p2⟩ := HD.out.take k
    rcases Nat.lt_or_ge k xs.length with hlt | hge
    · obtain ⟨bx, ox, rfl, cx⟩ := HX.out (fun h => by subst h; simp at hlt)
      have c1 := cx k hlt
      obtain ⟨h1, h2⟩ := HD.out.at k hlt
      have PR : Hid (pr (xs.take (k + 1)) = pr (xs.take k) * xs.getD k 0) := Lib.hid (by rw [take_succ_getD xs k hlt, pr_snoc])
      obtain ⟨m1, m2⟩ := mul_dim p1 p2 h1 h2
      clear cx
      generalize xs.getD k 0 = d at c1 h1 h2 m1 m2 PR
      generalize pr (xs.take k) = p at p1 p2 m1 m2 PR ⊢
      go_wp2
      go_round
      case rel => exact ⟨k + 1, by omega, by go_num, by rw [PR.out]⟩
      case measure => simp [intOf]; omega
    · obtain rfl : k = xs.length := by omega
      rw [List.take_of_length_le (Nat.le_refl _)]
      obtain ⟨p, hp⟩ : ∃ p, pr xs = p := ⟨_, rfl⟩
      have HP := Lib.hid hp
      rw [hp]
      clear hp
      go_wp2
      go_ret
      exact ⟨by rw [HP.out]; rfl, rfl⟩
/-- What Count tells. -/
def cnt (xs : List Int) : Int := if pr xs ≤ 65536 then pr xs else 65537
theorem cnt_big {xs : List Int} (h : Dims xs) (k : Nat) (hk : k < xs.length) (hb : 65536 < pr (xs.take k) * xs.getD k 0) : cnt xs = 65537 := by
  have := pr_mono h (k + 1) (by omega)
  rw [take_succ_getD xs k hk, pr_snoc] at this
  exact if_neg (by omega)
theorem count_any {u : Value} {xs : List Int} {w : World} (hx : Row .i64 w u xs) (hD : Dims xs) :
    Calls Tryz.prog 82 #[u] w fun e w' => e = .returned (.int .i64 (cnt xs)) ∧ w = w' := by
  obtain ⟨a, cap, rfl, hx1, hx2, hx3⟩ := hx
  unfold maxLen at hx2
  have HX := Lib.hid hx3
  have HD := Lib.hid hD
  clear hx3 hD
  go_enter Tryz.func82, Tryz.ntmps82
  go_wp2_with fail
  go_loop [3, 4] (fun p i => ∃ k : Nat, k ≤ xs.length ∧ i = .int .i64 k ∧ p = .int .i64 (pr (xs.take k)) ∧ pr (xs.take k) ≤ 65536) (fun _ i => xs.length - (intOf i).toNat)
  case atStart => exact ⟨0, Nat.zero_le _, rfl, rfl, by simp [pr]⟩
  case round =>
    obtain ⟨k, hk, rfl, rfl, hp⟩ := hrel
    obtain ⟨p1, p2⟩ := HD.out.take k
    rcases Nat.lt_or_ge k xs.length with hlt | hge
    · obtain ⟨bx, ox, rfl, cx⟩ := HX.out (fun h => by subst h; simp at hlt)
      have c1 := cx k hlt
      obtain ⟨h1, h2⟩ := HD.out.at k hlt
      have PR : Hid (pr (xs.take (k + 1)) = pr (xs.take k) * xs.getD k 0) := Lib.hid (by rw [take_succ_getD xs k hlt, pr_snoc])
      have BIG := Lib.hid (cnt_big HD.out k hlt)
      obtain ⟨m1, m2⟩ := mul_dim p1 p2 h1 h2
      clear cx
      generalize xs.getD k 0 = d at c1 h1 h2 m1 m2 PR BIG
      generalize pr (xs.take k) = p at p1 p2 m1 m2 PR hp BIG ⊢
      by_cases hm : p * d ≤ 65536
      · clear BIG
        go_wp2
        go_round
        case rel => exact ⟨k + 1, by omega, by go_num, by rw [PR.out], by rw [PR.out]; exact hm⟩
        case measure => simp [intOf]; omega
      · have B := Lib.hid (BIG.out (by omega))
        clear BIG
        go_wp2
        go_ret
        exact ⟨by rw [B.out]; rfl, rfl⟩
    · obtain rfl : k = xs.length := by omega
      have C : Hid (cnt xs = pr xs) := Lib.hid (if_pos (by rwa [List.take_of_length_le (Nat.le_refl _)] at hp))
      rw [List.take_of_length_le (Nat.le_refl _)]
      generalize pr xs = p at C ⊢
      go_wp2
      go_ret
      exact ⟨by rw [C.out]; rfl, rfl⟩
theorem may6_len {u : Value} {xs : List Int} {w : World} (hx : Row .i64 w u xs) (hl : 4 < xs.length) :
    Calls Tryz.prog 33 #[u] w fun e w' => e = .returned (.bool false) ∧ w = w' := by
  obtain ⟨a, cap, rfl, hx1, hx2, hx3⟩ := hx
  unfold maxLen at hx2
  clear hx3
  go_enter Tryz.func33, Tryz.ntmps33
  go_wp2
  go_ret
  exact ⟨rfl, rfl⟩
theorem may6_any {u : Value} {xs : List Int} {w : World} (hx : Row .i64 w u xs) :
    Calls Tryz.prog 33 #[u] w fun e w' => e = .returned (.bool (shp xs)) ∧ w = w' := by
  rcases Nat.lt_or_ge 4 xs.length with hl | hl
  · rw [shp_len hl]; exact may6_len hx hl
  have HC := Lib.hid (fun h => count_any hx h)
  obtain ⟨a, cap, rfl, hx1, hx2, hx3⟩ := hx
  unfold maxLen at hx2
  have HX := Lib.hid hx3
  clear hx3
  go_enter Tryz.func33, Tryz.ntmps33
  go_wp2_with fail
  go_loop [3] (fun i => ∃ k : Nat, k ≤ xs.length ∧ i = .int .i64 k ∧ ∀ j, j < k → 1 ≤ xs.getD j 0 ∧ xs.getD j 0 ≤ 4096) (fun i => xs.length - (intOf i).toNat)
  case atStart => exact ⟨0, Nat.zero_le _, rfl, fun j hj => by omega⟩
  case round =>
    obtain ⟨k, hk, rfl, hd⟩ := hrel
    have HD := Lib.hid hd
    clear hd
    rcases Nat.lt_or_ge k xs.length with hlt | hge
    · obtain ⟨bx, ox, rfl, cx⟩ := HX.out (fun h => by subst h; simp at hlt)
      have c1 := cx k hlt
      have BAD := Lib.hid (shp_bad k hlt)
      clear cx
      by_cases h1 : 1 ≤ xs.getD k 0
      · by_cases h2 : xs.getD k 0 ≤ 4096
        · have NEW : Hid (∀ j, j < k + 1 → 1 ≤ xs.getD j 0 ∧ xs.getD j 0 ≤ 4096) := Lib.hid (fun j hj => by
            rcases Nat.lt_succ_iff_lt_or_eq.1 hj with h | rfl
            · exact HD.out j h
            · exact ⟨h1, h2⟩)
          clear BAD HD
          generalize xs.getD k 0 = d at c1 h1 h2
          go_wp2
          go_round
          case rel => exact ⟨k + 1, by omega, by go_num, NEW.out⟩
          case measure => simp [intOf]; omega
        · have B := Lib.hid (BAD.out (.inr (by omega)))
          generalize xs.getD k 0 = d at c1 h1 h2
          clear BAD
          go_wp2
          go_ret
          exact ⟨by rw [B.out]; rfl, rfl⟩
      · have B := Lib.hid (BAD.out (.inl (by omega)))
        generalize xs.getD k 0 = d at c1 h1
        clear BAD
        go_wp2
        go_ret
        exact ⟨by rw [B.out]; rfl, rfl⟩
    · obtain rfl : k = xs.length := by omega
      have DM : Hid (Dims xs) := Lib.hid ⟨hl, fun d hd => by
        obtain ⟨j, hj, rfl⟩ := List.getElem_of_mem hd
        have := HD.out j hj
        rw [List.getD_eq_getElem?_getD, List.getElem?_eq_getElem hj] at this
        simpa using this⟩
      have E := Lib.hid (shp_of DM.out)
      have C := Lib.hid (HC.out DM.out)
      by_cases hp : pr xs ≤ 65536
      · have EE : Hid (shp xs = true) := Lib.hid (by rw [E.out]; simpa using hp)
        have ec : decide (cnt xs ≤ 65536) = true := by unfold cnt; rw [if_pos hp]; simpa using hp
        generalize cnt xs = c at C ec
        clear E
        go_wp2_with fail; refine (C.out).mono ?_; rintro e w' ⟨rfl, rfl⟩
        go_wp2
        go_ret
        exact ⟨by rw [EE.out]; rfl, rfl⟩
      · have EE : Hid (shp xs = false) := Lib.hid (by rw [E.out]; simpa using hp)
        have ec : decide (cnt xs ≤ 65536) = false := by unfold cnt; rw [if_neg hp]; decide
        generalize cnt xs = c at C ec
        clear E
        go_wp2_with fail; refine (C.out).mono ?_; rintro e w' ⟨rfl, rfl⟩
        go_wp2
        go_ret
        exact ⟨by rw [EE.out]; rfl, rfl⟩
end Go.Proofs.YtkegefnpmijfiaaGreat
namespace Go.Proofs.YtkegefnpmijfiaaGreat
end Go.Proofs.YtkegefnpmijfiaaGreat
namespace Go.Proofs.YtkegefnpmijfiaaGreat
open Go.RowKit
section
variable {P : Program} {w : World}
end
end Go.Proofs.YtkegefnpmijfiaaGreat
namespace Go.Proofs.YtkegefnpmijfiaaGreat
open Go.RowKit
end Go.Proofs.YtkegefnpmijfiaaGreat
namespace Go.Proofs.YtkegefnpmijfiaaGreat
open Go.RowKit
attribute [local go_sem ↓] Go.wp_at_zero Go.wp_at_succ
end Go.Proofs.YtkegefnpmijfiaaGreat
