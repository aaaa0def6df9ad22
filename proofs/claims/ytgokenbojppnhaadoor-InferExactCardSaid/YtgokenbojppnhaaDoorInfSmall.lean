/- Shapes: Good, Size of the program; May, Count of the references: what they tell of a list of numbers. Layer 27 (infer), the plain law: shapes and parameters of layers. No function of the program is named here. append of a row of numbers that came in (nil, too) onto an own row. No function of the program is named here. slices.Repeat of a slice of one number, once or twice. infer's small functions: Fits, Square (slices.Repeat). -/
import Derived.Test.YtgokenbojppnhaaDoorLists
import Derived.Test.YtgokenbojppnhaaDoorDefText
import Derived.Test.YtgokenbojppnhaaDoorGb
import Derived.Test.YtgokenbojppnhaaDoorClones
import Derived.Test.YtgokenbojppnhaaDoorFx
import Derived.Lib.ItoaNum
import Derived.Laws.AppendOwnNone
import Derived.Laws.CopyOwn
import Derived.LoopN
import Derived.Deep.RegionLaw
import Derived.BigRegion
import Derived.Deep.RegionHeld3
import Derived.Deep.DrawnRows
import Derived.BigQuiet
import Derived.Deep.QuietTactic
namespace Go.Proofs.YtgokenbojppnhaaDoor
open Go.RowKit
/-- The product of a list. -/
def pr (ds : List Int) : Int := ds.foldl (· * ·) 1
theorem pr_snoc (ds : List Int) (d : Int) : pr (ds ++ [d]) = pr ds * d := by unfold pr; rw [List.foldl_append]; rfl
def dimB (d : Int) : Bool := decide (1 ≤ d ∧ d ≤ 4096)
/-- Dimensions, not too many. -/
def Dims (xs : List Int) : Prop := xs.length ≤ 4 ∧ ∀ d ∈ xs, 1 ≤ d ∧ d ≤ 4096
/-- A shape. -/
def shp (xs : List Int) : Bool := decide (xs.length ≤ 4) && xs.all dimB && decide (pr xs ≤ 65536)
theorem shp_dims {xs : List Int} (h : shp xs = true) : Dims xs ∧ pr xs ≤ 65536 := by
  simp only [shp, Bool.and_eq_true, decide_eq_true_eq, List.all_eq_true] at h
  exact ⟨⟨h.1.1, fun d hd => by have := h.1.2 d hd; simpa [dimB] using this⟩, h.2⟩
theorem shp_of {xs : List Int} (h : Dims xs) : shp xs = decide (pr xs ≤ 65536) := by
  have h1 : xs.all dimB = true := List.all_eq_true.2 fun d hd => by simpa [dimB] using h.2 d hd
  simp [shp, h.1, h1]
theorem shp_len {xs : List Int} (h : 4 < xs.length) : shp xs = false := by simp [shp]; omega
theorem shp_bad {xs : List Int} (k : Nat) (hk : k < xs.length) (h : xs.getD k 0 < 1 ∨ 4096 < xs.getD k 0) : shp xs = false := by
  cases hs : shp xs with
  | false => rfl
  | true => have := (shp_dims hs).1.2 _ (getD_mem xs k hk); omega
theorem pow4096 {n : Nat} (h : n ≤ 4) : (4096 : Int) ^ n ≤ 281474976710656 := by
  rcases (by omega : n = 0 ∨ n = 1 ∨ n = 2 ∨ n = 3 ∨ n = 4) with rfl | rfl | rfl | rfl | rfl <;> decide
theorem pr_bd : ∀ (n : Nat) (xs : List Int), xs.length = n → (∀ d ∈ xs, 1 ≤ d ∧ d ≤ 4096) → 1 ≤ pr xs ∧ pr xs ≤ 4096 ^ n
  | 0, xs, h, _ => by obtain rfl := List.length_eq_zero_iff.1 h; simp [pr]
  | n + 1, xs, h, hd => by
    have hn : xs ≠ [] := fun e => by subst e; simp at h
    obtain ⟨ys, y, rfl⟩ : ∃ ys y, xs = ys ++ [y] := ⟨xs.dropLast, xs.getLast hn, (List.dropLast_concat_getLast hn).symm⟩
    obtain ⟨h1, h2⟩ := pr_bd n ys (by simpa using h) (fun d hdm => hd d (by simp [hdm]))
    obtain ⟨h3, h4⟩ := hd y (by simp)
    rw [pr_snoc, Int.pow_succ]
    have := Int.mul_le_mul h2 h4 (by omega) (by omega)
    have e := Int.mul_le_mul h1 h3 (by omega) (by omega)
    omega
theorem Dims.take {xs : List Int} (h : Dims xs) (k : Nat) : 1 ≤ pr (xs.take k) ∧ pr (xs.take k) ≤ 281474976710656 := by
  obtain ⟨h1, h2⟩ := pr_bd _ (xs.take k) rfl (fun d hd => h.2 d (List.mem_of_mem_take hd))
  exact ⟨h1, Int.le_trans h2 (pow4096 (by rw [List.length_take]; have := h.1; omega))⟩
theorem Dims.at {xs : List Int} (h : Dims xs) (k : Nat) (hk : k < xs.length) : 1 ≤ xs.getD k 0 ∧ xs.getD k 0 ≤ 4096 := h.2 _ (getD_mem xs k hk)
/-- What a partial product is bounded by, dimension by dimension. -/
theorem part_bd {xs : List Int} {k : Nat} (hl : xs.length ≤ 4) (h : ∀ j, j < k → 1 ≤ xs.getD j 0 ∧ xs.getD j 0 ≤ 4096) (hk : k ≤ xs.length) : 1 ≤ pr (xs.take k) ∧ pr (xs.take k) ≤ 281474976710656 := by
  obtain ⟨h1, h2⟩ := pr_bd _ (xs.take k) rfl (fun d hd => by
    obtain ⟨j, hj, rfl⟩ := List.getElem_of_mem hd
    rw [List.length_take] at hj
    have := h j (by omega)
    rw [List.getD_eq_getElem?_getD, List.getElem?_eq_getElem (by omega)] at this
    simpa using this)
  exact ⟨h1, Int.le_trans h2 (pow4096 (by rw [List.length_take]; omega))⟩
theorem pr_mono {xs : List Int} (h : Dims xs) (k : Nat) (hk : k ≤ xs.length) : pr (xs.take k) ≤ pr xs := by
  obtain ⟨n, hn⟩ : ∃ n, xs.length = k + n := ⟨xs.length - k, by omega⟩
  induction n generalizing k with
  | zero => rw [List.take_of_length_le (by omega)]; exact Int.le_refl _
  | succ n ih =>
    refine Int.le_trans ?_ (ih (k + 1) (by omega) (by omega))
    rw [take_succ_getD xs k (by omega), pr_snoc]
    have h1 := (h.take k).1
    have h2 := (h.at k (by omega)).1
    have := Int.mul_le_mul_of_nonneg_left h2 (show 0 ≤ pr (xs.take k) by omega)
    omega
theorem mul_dim {p d : Int} (h1 : 1 ≤ p) (h2 : p ≤ 281474976710656) (h3 : 1 ≤ d) (h4 : d ≤ 4096) : 1 ≤ p * d ∧ p * d ≤ 1152921504606846976 := by
  have a := Int.mul_le_mul h1 h3 (by omega) (by omega)
  have b := Int.mul_le_mul h2 h4 (by omega) (by omega)
  omega
theorem good_len {u : Value} {xs : List Int} {w : World} (hx : Row .i64 w u xs) (hl : 4 < xs.length) :
    Calls Tryd.prog 45 #[u] w fun e w' => e = .returned (.bool false) ∧ w = w' := by
  obtain ⟨a, cap, rfl, hx1, hx2, hx3⟩ := hx
  unfold maxLen at hx2
  clear hx3
  go_enter Tryd.func45, Tryd.ntmps45
  go_wp2
  go_ret
  exact ⟨rfl, rfl⟩
theorem sgood_any {u : Value} {xs : List Int} {w : World} (hx : Row .i64 w u xs) :
    Calls Tryd.prog 45 #[u] w fun e w' => e = .returned (.bool (shp xs)) ∧ w = w' := by
  rcases Nat.lt_or_ge 4 xs.length with hl | hl
  · rw [shp_len hl]; exact good_len hx hl
  obtain ⟨a, cap, rfl, hx1, hx2, hx3⟩ := hx
  unfold maxLen at hx2
  have HX := Lib.hid hx3
  clear hx3
  go_enter Tryd.func45, Tryd.ntmps45
  go_wp2_with fail
  go_loop [3, 11] (fun p i => ∃ k : Nat, k ≤ xs.length ∧ i = .int .i64 k ∧ p = .int .i64 (pr (xs.take k)) ∧ ∀ j, j < k → 1 ≤ xs.getD j 0 ∧ xs.getD j 0 ≤ 4096) (fun _ i => xs.length - (intOf i).toNat)
  case atStart => exact ⟨0, Nat.zero_le _, rfl, rfl, fun j hj => by omega⟩
  case round =>
    obtain ⟨k, hk, rfl, rfl, hd⟩ := hrel
    obtain ⟨p1, p2⟩ := part_bd hl hd hk
    have HD := Lib.hid hd
    clear hd
    rcases Nat.lt_or_ge k xs.length with hlt | hge
    · obtain ⟨bx, ox, rfl, cx⟩ := HX.out (fun h => by subst h; simp at hlt)
      have c1 := cx k hlt
      have T1 := Lib.hid (take_succ_getD xs k hlt)
      have BAD := Lib.hid (shp_bad k hlt)
      clear cx
      by_cases h1 : 1 ≤ xs.getD k 0
      · by_cases h2 : xs.getD k 0 ≤ 4096
        · obtain ⟨m1, m2⟩ := mul_dim p1 p2 h1 h2
          have NEW : Hid (∀ j, j < k + 1 → 1 ≤ xs.getD j 0 ∧ xs.getD j 0 ≤ 4096) := Lib.hid (fun j hj => by
            rcases Nat.lt_succ_iff_lt_or_eq.1 hj with h | rfl
            · exact HD.out j h
            · exact ⟨h1, h2⟩)
          have PR : Hid (pr (xs.take (k + 1)) = pr (xs.take k) * xs.getD k 0) := Lib.hid (by rw [T1.out, pr_snoc])
          clear T1 BAD HD
          generalize xs.getD k 0 = d at c1 h1 h2 m1 m2 PR
          generalize pr (xs.take k) = p at p1 p2 m1 m2 PR ⊢
          go_wp2
          go_round
          case rel => exact ⟨k + 1, by omega, by go_num, by rw [PR.out], NEW.out⟩
          case measure => simp [intOf]; omega
        · have B := Lib.hid (BAD.out (.inr (by omega)))
          generalize xs.getD k 0 = d at c1 h1 h2
          generalize pr (xs.take k) = p at p1 p2 ⊢
          clear T1 BAD
          go_wp2
          go_ret
          exact ⟨by rw [B.out]; rfl, rfl⟩
      · have B := Lib.hid (BAD.out (.inl (by omega)))
        generalize xs.getD k 0 = d at c1 h1
        generalize pr (xs.take k) = p at p1 p2 ⊢
        clear T1 BAD
        go_wp2
        go_ret
        exact ⟨by rw [B.out]; rfl, rfl⟩
    · obtain rfl : k = xs.length := by omega
      have DM : Hid (Dims xs) := Lib.hid ⟨hl, fun d hd => by
        obtain ⟨j, hj, rfl⟩ := List.getElem_of_mem hd
        have := HD.out j hj
        rw [List.getD_eq_getElem?_getD, List.getElem?_eq_getElem hj] at this
        simpa using this⟩
      have E := Lib.hid (shp_of DM.out)
      rw [List.take_of_length_le (Nat.le_refl _)] at p1 p2 ⊢
      generalize pr xs = p at p1 p2 E ⊢
      by_cases hp : p ≤ 65536
      · have EE : Hid (shp xs = true) := Lib.hid (by rw [E.out]; simpa using hp)
        clear E
        go_wp2
        go_ret
        exact ⟨by rw [EE.out]; rfl, rfl⟩
      · have EE : Hid (shp xs = false) := Lib.hid (by rw [E.out]; simpa using hp)
        clear E
        go_wp2
        go_ret
        exact ⟨by rw [EE.out]; rfl, rfl⟩
theorem size_any {u : Value} {xs : List Int} {w : World} (hx : Row .i64 w u xs) (hD : Dims xs) :
    Calls Tryd.prog 83 #[u] w fun e w' => e = .returned (.int .i64 (pr xs)) ∧ w = w' := by
  obtain ⟨a, cap, rfl, hx1, hx2, hx3⟩ := hx
  unfold maxLen at hx2
  have HX := Lib.hid hx3
  have HD := Lib.hid hD
  clear hx3 hD
  go_enter Tryd.func83, Tryd.ntmps83
  go_wp2_with fail
  go_loop [3, 8] (fun p i => ∃ k : Nat, k ≤ xs.length ∧ i = .int .i64 k ∧ p = .int .i64 (pr (xs.take k))) (fun _ i => xs.length - (intOf i).toNat)
  case atStart => exact ⟨0, Nat.zero_le _, rfl, rfl⟩
  case round =>
    obtain ⟨k, hk, rfl, rfl⟩ := hrel
    obtain ⟨p1, p2⟩ := HD.out.take k
    rcases Nat.lt_or_ge k xs.length with hlt | hge
    · obtain ⟨bx, ox, rfl, cx⟩ := HX.out (fun h => by subst h; simp at hlt)
      have c1 := cx k hlt
      obtain ⟨h1, h2⟩ := HD.out.at k hlt
      have PR : Hid (pr (xs.take (k + 1)) = pr (xs.take k) * xs.getD k 0) := Lib.hid (by rw [take_succ_getD xs k hlt, pr_snoc])
      obtain ⟨m1, m2⟩ := mul_dim p1 p2 h1 h2
      clear cx
      generalize xs.getD k 0 = d at c1 h1 h2 m1 m2 PR
      generalize pr (xs.take k) = p at p1 p2 m1 m2 PR ⊢
      go_wp2
      go_round
      case rel => exact ⟨k + 1, by omega, by go_num, by rw [PR.out]⟩
      case measure => simp [intOf]; omega
    · obtain rfl : k = xs.length := by omega
      rw [List.take_of_length_le (Nat.le_refl _)]
      obtain ⟨p, hp⟩ : ∃ p, pr xs = p := ⟨_, rfl⟩
      have HP := Lib.hid hp
      rw [hp]
      clear hp
      go_wp2
      go_ret
      exact ⟨by rw [HP.out]; rfl, rfl⟩
/-- What Count tells. -/
def cnt (xs : List Int) : Int := if pr xs ≤ 65536 then pr xs else 65537
theorem cnt_big {xs : List Int} (h : Dims xs) (k : Nat) (hk : k < xs.length) (hb : 65536 < pr (xs.take k) * xs.getD k 0) : cnt xs = 65537 := by
  have := pr_mono h (k + 1) (by omega)
  rw [take_succ_getD xs k hk, pr_snoc] at this
  exact if_neg (by omega)
theorem count_any {u : Value} {xs : List Int} {w : World} (hx : Row .i64 w u xs) (hD : Dims xs) :
    Calls Tryd.prog 40 #[u] w fun e w' => e = .returned (.int .i64 (cnt xs)) ∧ w = w' := by
  obtain ⟨a, cap, rfl, hx1, hx2, hx3⟩ := hx
  unfold maxLen at hx2
  have HX := Lib.hid hx3
  have HD := Lib.hid hD
  clear hx3 hD
  go_enter Tryd.func40, Tryd.ntmps40
  go_wp2_with fail
  go_loop [3, 4] (fun p i => ∃ k : Nat, k ≤ xs.length ∧ i = .int .i64 k ∧ p = .int .i64 (pr (xs.take k)) ∧ pr (xs.take k) ≤ 65536) (fun _ i => xs.length - (intOf i).toNat)
  case atStart => exact ⟨0, Nat.zero_le _, rfl, rfl, by simp [pr]⟩
  case round =>
    obtain ⟨k, hk, rfl, rfl, hp⟩ := hrel
    obtain ⟨p1, p2⟩ := HD.out.take k
    rcases Nat.lt_or_ge k xs.length with hlt | hge
    · obtain ⟨bx, ox, rfl, cx⟩ := HX.out (fun h => by subst h; simp at hlt)
      have c1 := cx k hlt
      obtain ⟨h1, h2⟩ := HD.out.at k hlt
      have PR : Hid (pr (xs.take (k + 1)) = pr (xs.take k) * xs.getD k 0) := Lib.hid (by rw [take_succ_getD xs k hlt, pr_snoc])
      have BIG := Lib.hid (cnt_big HD.out k hlt)
      obtain ⟨m1, m2⟩ := mul_dim p1 p2 h1 h2
      clear cx
      generalize xs.getD k 0 = d at c1 h1 h2 m1 m2 PR BIG
      generalize pr (xs.take k) = p at p1 p2 m1 m2 PR hp BIG ⊢
      by_cases hm : p * d ≤ 65536
      · clear BIG
        go_wp2
        go_round
        case rel => exact ⟨k + 1, by omega, by go_num, by rw [PR.out], by rw [PR.out]; exact hm⟩
        case measure => simp [intOf]; omega
      · have B := Lib.hid (BIG.out (by omega))
        clear BIG
        go_wp2
        go_ret
        exact ⟨by rw [B.out]; rfl, rfl⟩
    · obtain rfl : k = xs.length := by omega
      have C : Hid (cnt xs = pr xs) := Lib.hid (if_pos (by rwa [List.take_of_length_le (Nat.le_refl _)] at hp))
      rw [List.take_of_length_le (Nat.le_refl _)]
      generalize pr xs = p at C ⊢
      go_wp2
      go_ret
      exact ⟨by rw [C.out]; rfl, rfl⟩
theorem may6_len {u : Value} {xs : List Int} {w : World} (hx : Row .i64 w u xs) (hl : 4 < xs.length) :
    Calls Tryd.prog 29 #[u] w fun e w' => e = .returned (.bool false) ∧ w = w' := by
  obtain ⟨a, cap, rfl, hx1, hx2, hx3⟩ := hx
  unfold maxLen at hx2
  clear hx3
  go_enter Tryd.func29, Tryd.ntmps29
  go_wp2
  go_ret
  exact ⟨rfl, rfl⟩
theorem may6_any {u : Value} {xs : List Int} {w : World} (hx : Row .i64 w u xs) :
    Calls Tryd.prog 29 #[u] w fun e w' => e = .returned (.bool (shp xs)) ∧ w = w' := by
  rcases Nat.lt_or_ge 4 xs.length with hl | hl
  · rw [shp_len hl]; exact may6_len hx hl
  have HC := Lib.hid (fun h => count_any hx h)
  obtain ⟨a, cap, rfl, hx1, hx2, hx3⟩ := hx
  unfold maxLen at hx2
  have HX := Lib.hid hx3
  clear hx3
  go_enter Tryd.func29, Tryd.ntmps29
  go_wp2_with fail
  go_loop [3] (fun i => ∃ k : Nat, k ≤ xs.length ∧ i = .int .i64 k ∧ ∀ j, j < k → 1 ≤ xs.getD j 0 ∧ xs.getD j 0 ≤ 4096) (fun i => xs.length - (intOf i).toNat)
  case atStart => exact ⟨0, Nat.zero_le _, rfl, fun j hj => by omega⟩
  case round =>
    obtain ⟨k, hk, rfl, hd⟩ := hrel
    have HD := Lib.hid hd
    clear hd
    rcases Nat.lt_or_ge k xs.length with hlt | hge
    · obtain ⟨bx, ox, rfl, cx⟩ := HX.out (fun h => by subst h; simp at hlt)
      have c1 := cx k hlt
      have BAD := Lib.hid (shp_bad k hlt)
      clear cx
      by_cases h1 : 1 ≤ xs.getD k 0
      · by_cases h2 : xs.getD k 0 ≤ 4096
        · have NEW : Hid (∀ j, j < k + 1 → 1 ≤ xs.getD j 0 ∧ xs.getD j 0 ≤ 4096) := Lib.hid (fun j hj => by
            rcases Nat.lt_succ_iff_lt_or_eq.1 hj with h | rfl
            · exact HD.out j h
            · exact ⟨h1, h2⟩)
          clear BAD HD
          generalize xs.getD k 0 = d at c1 h1 h2
          go_wp2
          go_round
          case rel => exact ⟨k + 1, by omega, by go_num, NEW.out⟩
          case measure => simp [intOf]; omega
        · have B := Lib.hid (BAD.out (.inr (by omega)))
          generalize xs.getD k 0 = d at c1 h1 h2
          clear BAD
          go_wp2
          go_ret
          exact ⟨by rw [B.out]; rfl, rfl⟩
      · have B := Lib.hid (BAD.out (.inl (by omega)))
        generalize xs.getD k 0 = d at c1 h1
        clear BAD
        go_wp2
        go_ret
        exact ⟨by rw [B.out]; rfl, rfl⟩
    · obtain rfl : k = xs.length := by omega
      have DM : Hid (Dims xs) := Lib.hid ⟨hl, fun d hd => by
        obtain ⟨j, hj, rfl⟩ := List.getElem_of_mem hd
        have := HD.out j hj
        rw [List.getD_eq_getElem?_getD, List.getElem?_eq_getElem hj] at this
        simpa using this⟩
      have E := Lib.hid (shp_of DM.out)
      have C := Lib.hid (HC.out DM.out)
      by_cases hp : pr xs ≤ 65536
      · have EE : Hid (shp xs = true) := Lib.hid (by rw [E.out]; simpa using hp)
        have ec : decide (cnt xs ≤ 65536) = true := by unfold cnt; rw [if_pos hp]; simpa using hp
        generalize cnt xs = c at C ec
        clear E
        go_wp2_with fail; refine (C.out).mono ?_; rintro e w' ⟨rfl, rfl⟩
        go_wp2
        go_ret
        exact ⟨by rw [EE.out]; rfl, rfl⟩
      · have EE : Hid (shp xs = false) := Lib.hid (by rw [E.out]; simpa using hp)
        have ec : decide (cnt xs ≤ 65536) = false := by unfold cnt; rw [if_neg hp]; decide
        generalize cnt xs = c at C ec
        clear E
        go_wp2_with fail; refine (C.out).mono ?_; rintro e w' ⟨rfl, rfl⟩
        go_wp2
        go_ret
        exact ⟨by rw [EE.out]; rfl, rfl⟩
end Go.Proofs.YtgokenbojppnhaaDoor
namespace Go.Proofs.YtgokenbojppnhaaDoor
/-- A parameter. -/
structure ParamP where
  name : Bs
  shape : List Int
  inn : Int
  out : Int
deriving DecidableEq
def roomS (size pad l : Int) : Int := l + 2 * pad - (size - 1) - 1
def placesS (size stride pad : Int) (ls : List Int) : Option (List Int) :=
  if ls.all (fun l => decide (0 ≤ roomS size pad l)) then some (ls.map fun l => roomS size pad l / stride + 1) else none
def strideS (f : LayF) : Int := if f.kind = 2 then f.stride else f.size
def imageS (f : LayF) (s : List Int) : Option (List Int) := if s.length = 2 ∨ s.length = 3 then placesS f.size (strideS f) f.pad s.tail else none
def lastI (s : List Int) : Int := s.getD (s.length - 1) 0
/-- A shape, with 1 ahead. -/
def fullS (s : List Int) : Bool := shp (1 :: s)
/-- A layer that is no residual: the shape behind it, its parameters; none: it does not go with the shape. -/
def doesS (f : LayF) (s : List Int) (first : Bool) (name : Bs) : Option (List Int × List ParamP) :=
  if f.kind = 1 then (if 1 ≤ s.length ∧ s.length ≤ 2 ∧ lastI s = f.inn then some (s.take (s.length - 1) ++ [f.out], [⟨name ++ [46, 119], [f.inn, f.out], f.inn, f.out⟩, ⟨name ++ [46, 98], [f.out], 0, 0⟩]) else none)
  else if f.kind = 2 then (match imageS f s with
    | none => none
    | some p => if s.getD 0 0 = f.inn then some (f.out :: p, [⟨name ++ [46, 119], f.out :: f.inn :: List.replicate (s.length - 1) f.size, f.inn * pr (List.replicate (s.length - 1) f.size), f.out * pr (List.replicate (s.length - 1) f.size)⟩, ⟨name ++ [46, 98], f.out :: List.replicate (s.length - 1) 1, 0, 0⟩]) else none)
  else if f.kind = 8 ∨ f.kind = 9 then (imageS f s).map (fun p => (s.getD 0 0 :: p, []))
  else if f.kind = 10 then some ([pr s], [])
  else if f.kind = 11 then (if first = true ∧ s.length = 1 then some ([s.getD 0 0, f.out], [⟨name ++ [46, 116], [f.inn, f.out], f.inn, f.out⟩]) else none)
  else if f.kind = 12 then (if s.length = 2 ∧ s.getD 1 0 = f.inn ∧ f.inn % f.heads = 0 then some (s, [⟨name ++ [46, 113], [f.inn, f.inn], f.inn, f.inn⟩, ⟨name ++ [46, 107], [f.inn, f.inn], f.inn, f.inn⟩, ⟨name ++ [46, 118], [f.inn, f.inn], f.inn, f.inn⟩, ⟨name ++ [46, 111], [f.inn, f.inn], f.inn, f.inn⟩]) else none)
  else some (s, [])
/-- What came of layers: an error's number, or the shape behind them and the parameters. -/
inductive Told where
  | bad (e : Int)
  | ok (s : List Int) (ps : List ParamP)
deriving DecidableEq
def judgeS (f : LayF) (s : List Int) (first : Bool) (name : Bs) : Told := match doesS f s first name with
  | none => .bad 2
  | some (o, ps) => if fullS o && ps.all (fun p => shp p.shape) then .ok o ps else .bad 5
mutual
def Lay.infer (first : Bool) (name : Bs) (s : List Int) : Lay → Told
  | .mk f b => if f.kind = 13 then (match inferS false (name ++ [46]) 0 s b with
      | .bad e => .bad e
      | .ok x ps => if x = s then .ok s ps else .bad 2)
    else judgeS f s first name
def inferS (first : Bool) (ahead : Bs) (k : Nat) (s : List Int) : List Lay → Told
  | [] => .ok s []
  | l :: ls => match l.infer first (ahead ++ Lib.itoa (k : Int)) s with
    | .bad e => .bad e
    | .ok x ps => match inferS false ahead (k + 1) x ls with
      | .bad e => .bad e
      | .ok y qs => .ok y (ps ++ qs)
end
/-- All that the page says of a definition. -/
def toldS (d : DefL) : Told := if goodD d = false then .bad 1 else if fullS d.input = false then .bad 5 else match inferS true [] 0 d.input d.layers with
  | .bad e => .bad e
  | .ok x ps => if d.loss = 1 ∧ x.length ≠ 1 then .bad 2 else .ok x ps
theorem fullS_dims {s : List Int} (h : fullS s = true) : s.length ≤ 3 ∧ (∀ d ∈ s, 1 ≤ d ∧ d ≤ 4096) ∧ 1 ≤ pr s ∧ pr s ≤ 65536 := by
  obtain ⟨⟨h1, h2⟩, h3⟩ := shp_dims h
  have e : pr (1 :: s) = pr s := by simp [pr]
  have hd : ∀ d ∈ s, 1 ≤ d ∧ d ≤ 4096 := fun d hd => h2 d (List.mem_cons_of_mem _ hd)
  exact ⟨by simpa using h1, hd, (pr_bd s.length s rfl hd).1, by rw [← e]; exact h3⟩
theorem fullS_shp {s : List Int} (h : fullS s = true) : shp s = true := by
  obtain ⟨h1, h2, h3, h4⟩ := fullS_dims h
  rw [shp_of ⟨by omega, h2⟩]
  simpa using h4
end Go.Proofs.YtgokenbojppnhaaDoor
namespace Go.Proofs.YtgokenbojppnhaaDoor
open Go.RowKit
section
variable {P : Program} {w : World}
theorem run_append_none' (base : Nat) (t ty e : TypeId) (i : TypeInfo) (size : Nat) (ht : P.underlying t = some (.slice e)) (hi : P.info? e = some i)
    (v : Value) (n : Nat) (xs : List Value) (hown : w.ownsRow base e size v n xs) (c : Nat) :
    (Builtin.append_ #[t, t] ty #[v, .slice none 0 c]).run P w = .ok v w := by
  rcases hown.2 with ⟨rfl, rfl⟩ | ⟨g, cap, cur, rfl, _, _, hnc, _⟩
  · simp [Builtin.append_, run_underlying ht, sizeOf, typeInfo, hi, Builtin.lenOf, Builtin.firstCells]
  · simp [Builtin.append_, run_underlying ht, sizeOf, typeInfo, hi, Builtin.lenOf, Builtin.firstCells, hnc, storeCells]
/-- append of a row of numbers: the run. -/
theorem run_append_row {k : IntKind} (base : Nat) (t ty e : TypeId) (i : TypeInfo) (z : Value) (bytes : Nat) (ht : P.underlying t = some (.slice e)) (hi : P.info? e = some i) (hz : i.zero = some z) (hsize : i.size = 1) (hby : i.bytes = bytes) (hzs : z.cells.size = 1)
    (v : Value) (n : Nat) (xs : List Value) (hown : w.ownsRow base e 1 v n xs) (u : Value) (ys : List Int) (hu : Row k w u ys) (h63 : n + ys.length ≤ maxLen) (hbytes : (n + ys.length) * bytes ≤ 140737488355328) (hbase : base ≤ w.heap.size) :
    ∃ v' w', (Builtin.append_ #[t, t] ty #[v, u]).run P w = .ok v' w' ∧ w'.ownsRow base e 1 v' (n + ys.length) (xs ++ ys.map (Value.int k)) ∧ w.grownBy w' v.ownBlock := by
  obtain ⟨a, c, rfl, h1, h2, h3⟩ := hu
  by_cases hy : ys = []
  · subst hy
    cases a with
    | none => exact ⟨v, w, run_append_none' base t ty e i 1 ht hi v n xs hown c, by simpa using hown, World.grownBy.refl _ _⟩
    | some ad =>
      obtain ⟨v', w', hr, g1, g2, -⟩ := run_append_own (P := P) w base t ty e i z 1 bytes ht hi hz hsize hby hzs (by omega) v n xs hown ad 0 c [] rfl (by intro j u h; simp at h) (by intro u h; simp at h) h63 hbytes hbase
      exact ⟨v', w', hr, by simpa using g1, g2⟩
  · obtain ⟨b, o, rfl, hc⟩ := h3 hy
    obtain ⟨v', w', hr, g1, g2, -⟩ := run_append_own (P := P) w base t ty e i z 1 bytes ht hi hz hsize hby hzs (by omega) v n xs hown ⟨b, o, none⟩ ys.length c (ys.map (Value.int k)) (by simp)
      (by
        intro j u hj
        have hjn : j < ys.length := by
          have := (List.getElem?_eq_some_iff.1 hj).1
          simpa using this
        rw [Addr.add_lit, hc j hjn]
        have e : (ys.map (Value.int k))[j]? = some (Value.int k (ys.getD j 0)) := by simp [List.getD, List.getElem?_eq_getElem hjn]
        rw [e] at hj
        exact hj)
      (by intro u hu; obtain ⟨x, _, rfl⟩ := List.mem_map.1 hu; rfl) h63 hbytes hbase
    exact ⟨v', w', hr, g1, g2⟩
theorem wp_append_row {k : IntKind} {o : Oper} {a : Act} {K : Act → World → Prop} {Q : Exit → Act → World → Prop} (s x : Operand) (t : TypeId)
    (ho : o.op = .call { callee := .builtin .append, args := #[s, x], argTypes := #[t, t] })
    (base : Nat) (e : TypeId) (i : TypeInfo) (z : Value) (bytes : Nat) (ht : P.underlying t = some (.slice e)) (hi : P.info? e = some i) (hz : i.zero = some z) (hsize : i.size = 1) (hby : i.bytes = bytes) (hzs : z.cells.size = 1)
    (v : Value) (n : Nat) (xs : List Value) (hs : a.eval s = v) (hown : w.ownsRow base e 1 v n xs) (u : Value) (hx : a.eval x = u) (ys : List Int) (hu : Row k w u ys)
    (h63 : n + ys.length ≤ maxLen) (hbytes : (n + ys.length) * bytes ≤ 140737488355328) (hbase : base ≤ w.heap.size)
    (h : ∀ v' w', w'.ownsRow base e 1 v' (n + ys.length) (xs ++ ys.map (Value.int k)) → w.grownBy w' v.ownBlock → K (a.put o.dst v') w') : o.wp P a w K Q := by
  obtain ⟨v', w', hr, h2, h3⟩ := run_append_row (P := P) (w := w) base t o.type e i z bytes ht hi hz hsize hby hzs v n xs hown u ys hu h63 hbytes hbase
  unfold Oper.wp execOp
  simp only [ho, resolve, invoke, builtin, Sem.run_bind, Sem.run_pure, Result.andThen_ok, List.map_toArray, List.map_cons, List.map_nil, hs, hx, hr]
  exact h v' w' h2 h3
theorem wpList_append_row {k : IntKind} {ops : Array Oper} {rest : List Oper} {o : Oper} {a : Act} {Q : Exit → Act → World → Prop} (hgd : o.guard = none) (s x : Operand) (t : TypeId)
    (ho : o.op = .call { callee := .builtin .append, args := #[s, x], argTypes := #[t, t] })
    (base : Nat) (e : TypeId) (i : TypeInfo) (z : Value) (bytes : Nat) (ht : P.underlying t = some (.slice e)) (hi : P.info? e = some i) (hz : i.zero = some z) (hsize : i.size = 1) (hby : i.bytes = bytes) (hzs : z.cells.size = 1)
    (v : Value) (n : Nat) (xs : List Value) (hs : a.eval s = v) (hown : w.ownsRow base e 1 v n xs) (u : Value) (hx : a.eval x = u) (ys : List Int) (hu : Row k w u ys)
    (h63 : n + ys.length ≤ maxLen) (hbytes : (n + ys.length) * bytes ≤ 140737488355328) (hbase : base ≤ w.heap.size)
    (h : ∀ v' w', w'.ownsRow base e 1 v' (n + ys.length) (xs ++ ys.map (Value.int k)) → w.grownBy w' v.ownBlock → wpList P ops Q rest (a.put o.dst v') w') : wpList P ops Q (o :: rest) a w :=
  wpList_plain hgd fun _ hK => wp_append_row s x t ho base e i z bytes ht hi hz hsize hby hzs v n xs hs hown u hx ys hu h63 hbytes hbase fun v' w' h2 h3 => hK _ _ (h v' w' h2 h3)
end
end Go.Proofs.YtgokenbojppnhaaDoor
namespace Go.Proofs.YtgokenbojppnhaaDoor
open Go.RowKit
set_option maxRecDepth 100000 in
theorem bmul_one (n : Int) (h0 : 0 ≤ n) (h1 : n ≤ 10) (w : World) : Calls Tryd.prog 98 #[.int .u64 1, .int .u64 n] w fun e w' => e = .returned (.tuple #[.int .u64 0, .int .u64 n]) ∧ w = w' := by
  have M := Lib.hid (mul64_any 1 n w (by omega) (by omega) (by omega) (by omega))
  rw [show hi (1 * n) = 0 by unfold hi; omega, show lo (1 * n) = n by unfold lo; omega] at M
  go_enter Tryd.func98, Tryd.ntmps98
  go_wp2_with fail
  refine M.out.mono ?_
  rintro e w' ⟨rfl, rfl⟩
  go_wp2
  go_ret2
  exact ⟨rfl, rfl⟩
theorem cp_size : (Tryd.prog.info? 3).map (·.size) = some 1 := by kernel_rfl
theorem src_one {x : Int} {g : Nat} {w : World} (hc : w.cell? ⟨g, 0, none⟩ = some (.int .i64 x)) (o : Obj) : ∀ j v, [Value.int .i64 x][j]? = some v → (w.alloc o).cell? ((⟨g, 0, none⟩ : Addr).add j) = some v := by
  intro j v hj
  cases j with
  | succ j => simp at hj
  | zero =>
    simp at hj
    subst hj
    rw [Addr.add_lit]
    exact Lib.cell?_alloc_some _ hc
theorem src_at {x y : Int} {g : Nat} {t : TypeId} {w : World} (h : w.heap[g]? = some (.cells [Value.int .i64 x, .int .i64 y].toArray t (0, 0))) : ∀ j v, [Value.int .i64 x][j]? = some v → w.drew.cell? ((⟨g, 0, none⟩ : Addr).add j) = some v := by
  intro j v hj
  cases j with
  | succ j => simp at hj
  | zero =>
    simp at hj
    subst hj
    rw [Addr.add_lit]
    show w.cell? _ = _
    rw [cell_of_row w _ _ _ _ _ h]
    rfl
set_option maxRecDepth 100000 in
theorem repeat_one {x : Int} {g c : Nat} {w : World} (hc : w.cell? ⟨g, 0, none⟩ = some (.int .i64 x)) :
    Calls Tryd.prog 92 #[.slice (some ⟨g, 0, none⟩) 1 c, .int .i64 1] w fun e w' => e = .returned (.slice (some ⟨w.heap.size, 0, none⟩) 1 1) ∧ Ext w w' ∧ Blk w' w.heap.size 3 (ints [x]) := by
  have hg := cell_lt hc
  simp only at hg
  have SRC := Lib.hid (src_one hc (.cells #[.int .i64 0] 3))
  have hmk : ∀ w, (Instr.makeSlice 24 (.int .i64 1) (.int .i64 1)).run Tryd.prog w = .ok (.slice (some ⟨w.heap.size, 0, none⟩) 1 1) (w.alloc (.cells #[.int .i64 0] 3)) := fun _ => by kernel_rfl
  go_enter Tryd.func92, Tryd.ntmps92
  go_wp2_with fail
  refine (bmul_one 1 (by omega) (by omega) _).mono ?_; rintro e w1 ⟨rfl, rfl⟩
  go_wp2_with (with_reducible refine wpList_copy_splice rfl (.tmp 31) (.tmp 32) 24 24 rfl 3 Tryd.underlying24 cp_size (some ⟨w.heap.size, 0, none⟩) (some ⟨g, 0, none⟩) 1 1 1 c rfl rfl w.heap.size 0 [.int .i64 0] 3 (heap_alloc_new w _) [.int .i64 x] rfl (fun _ => ⟨rfl, ⟨g, 0, none⟩, rfl, SRC.out⟩) (by simp) (by simp [Value.oneCell']) w.heap.size w (by repeat (first | with_reducible exact Ext.refl _ | with_reducible apply Ext.drew | with_reducible apply Ext.drewN | with_reducible apply Ext.alloc | ((with_reducible refine Ext.setCell ?_ ?_ _); rotate_left; focus (first | (simp; done) | (simp; omega) | omega)) | with_reducible refine Ext.tr ?_ x1 | with_reducible refine Ext.tr ?_ x2 | with_reducible refine Ext.tr ?_ x3 | with_reducible refine Ext.tr ?_ x4 | with_reducible refine Ext.tr ?_ hx | with_reducible assumption)) (Nat.le_refl _) ?_; intro w1 hw1 hb1)
  have B1 := Lib.hid hw1.out
  have X1 := Lib.hid hb1
  clear hw1 hb1 SRC hmk
  go_wp2
  refine wp_loop_rounds 1 ?_
  rw [rounds_succ]
  go_wp2
  go_ret
  exact ⟨rfl, X1.out, by have h := B1.out; simpa [splice, ints, Blk] using h⟩
set_option maxRecDepth 100000 in
theorem repeat_two {x : Int} {g c : Nat} {w : World} (hc : w.cell? ⟨g, 0, none⟩ = some (.int .i64 x)) :
    Calls Tryd.prog 92 #[.slice (some ⟨g, 0, none⟩) 1 c, .int .i64 2] w fun e w' => e = .returned (.slice (some ⟨w.heap.size, 0, none⟩) 2 2) ∧ Ext w w' ∧ Blk w' w.heap.size 3 (ints [x, x]) := by
  have hg := cell_lt hc
  simp only at hg
  have SRC := Lib.hid (src_one hc (.cells #[.int .i64 0, .int .i64 0] 3))
  have hmk : ∀ w, (Instr.makeSlice 24 (.int .i64 2) (.int .i64 2)).run Tryd.prog w = .ok (.slice (some ⟨w.heap.size, 0, none⟩) 2 2) (w.alloc (.cells #[.int .i64 0, .int .i64 0] 3)) := fun _ => by kernel_rfl
  go_enter Tryd.func92, Tryd.ntmps92
  go_wp2_with fail
  refine (bmul_one 2 (by omega) (by omega) _).mono ?_; rintro e w1 ⟨rfl, rfl⟩
  go_wp2_with (with_reducible refine wpList_copy_splice rfl (.tmp 31) (.tmp 32) 24 24 rfl 3 Tryd.underlying24 cp_size (some ⟨w.heap.size, 0, none⟩) (some ⟨g, 0, none⟩) 2 2 1 c rfl rfl w.heap.size 0 [.int .i64 0, .int .i64 0] 3 (heap_alloc_new w _) [.int .i64 x] rfl (fun _ => ⟨rfl, ⟨g, 0, none⟩, rfl, SRC.out⟩) (by simp) (by simp [Value.oneCell']) w.heap.size w (by repeat (first | with_reducible exact Ext.refl _ | with_reducible apply Ext.drew | with_reducible apply Ext.drewN | with_reducible apply Ext.alloc | ((with_reducible refine Ext.setCell ?_ ?_ _); rotate_left; focus (first | (simp; done) | (simp; omega) | omega)) | with_reducible refine Ext.tr ?_ x1 | with_reducible refine Ext.tr ?_ x2 | with_reducible refine Ext.tr ?_ x3 | with_reducible refine Ext.tr ?_ x4 | with_reducible refine Ext.tr ?_ hx | with_reducible assumption)) (Nat.le_refl _) ?_; intro w1 hw1 hb1)
  have B1 := Lib.hid hw1.out
  have X1 := Lib.hid hb1
  clear hw1 hb1 SRC hmk
  go_wp2
  refine wp_loop_rounds 2 ?_
  rw [rounds_succ]
  go_wp2
  have G1 : w1.heap[w.heap.size]? = some (.cells [Value.int .i64 x, .int .i64 0].toArray 3 (0, 0)) := by have h := B1.out; simpa [splice] using h
  have G2 := Lib.hid G1
  clear G1 B1
  go_region_law (refine step_copy_splice rfl (.tmp 41) (.tmp 44) 24 24 rfl 3 Tryd.underlying24 cp_size (some ⟨w.heap.size, 1, none⟩) (some ⟨w.heap.size, 0, none⟩) 1 1 1 2 (by simp [Act.eval, Act.put]) (by simp [Act.eval, Act.put]) w.heap.size 1 [.int .i64 x, .int .i64 0] 3 G2.out [.int .i64 x] rfl (fun _ => ⟨rfl, ⟨w.heap.size, 0, none⟩, rfl, src_at G2.out⟩) (by simp) (by simp [Value.oneCell']) w.heap.size w (X1.out.drew) (Nat.le_refl _) ?_; intro w2 hw2 hb2)
  all_goals
    have B2 := Lib.hid hw2.out
    have X2 := Lib.hid hb2
    clear hw2 hb2
    go_wp2
    rw [rounds_succ]
    go_wp2
    go_ret
    exact ⟨rfl, X2.out, by have h := B2.out; simpa [splice, ints, Blk] using h⟩
end Go.Proofs.YtgokenbojppnhaaDoor
namespace Go.Proofs.YtgokenbojppnhaaDoor
open Go.RowKit
attribute [local go_sem ↓] Go.wp_at_zero Go.wp_at_succ
theorem fits_any {v : Value} {s : List Int} {w : World} (h : Row .i64 w v s) (hl : s.length ≤ 1000000) :
    Calls Tryd.prog 32 #[v] w fun e w' => e = .returned (.bool (fullS s)) ∧ Ext w w' := by
  obtain ⟨i0, hi0, hz0, hz1, hz2⟩ := info_parts cloneI_info
  have H := Lib.hid h
  clear h
  go_enter Tryd.func32, Tryd.ntmps32
  go_wp2_with (at_builtin; refine wpList_append_row (k := .i64) rfl _ _ 24 rfl w.heap.size 3 i0 (.int .i64 0) 8 Tryd.underlying24 hi0 hz0 hz1 hz2 rfl _ 1 [.int .i64 1] rfl (World.ownsRow_lit w #[.int .i64 1] 1 (Nat.le_refl _) (by unfold maxLen; omega) rfl) _ rfl s (H.out.ext (by repeat (first | with_reducible exact Ext.refl _ | with_reducible apply Ext.drew | with_reducible apply Ext.drewN | with_reducible apply Ext.alloc | ((with_reducible refine Ext.setCell ?_ ?_ _); rotate_left; focus (first | (simp; done) | (simp; omega) | omega)) | with_reducible refine Ext.tr ?_ x1 | with_reducible refine Ext.tr ?_ x2 | with_reducible refine Ext.tr ?_ x3 | with_reducible refine Ext.tr ?_ x4 | with_reducible refine Ext.tr ?_ hx | with_reducible assumption))) (by unfold maxLen; omega) (by omega) (by simp) ?_)
  intro v' w1 hown hgrow
  have R := Lib.hid (Row.of_owns (k := .i64) (xs := 1 :: s) hown).1
  have X : Ext w w1 := Ext.grown (show Ext w _ from (by repeat (first | with_reducible exact Ext.refl _ | with_reducible apply Ext.drew | with_reducible apply Ext.drewN | with_reducible apply Ext.alloc | ((with_reducible refine Ext.setCell ?_ ?_ _); rotate_left; focus (first | (simp; done) | (simp; omega) | omega)) | with_reducible refine Ext.tr ?_ x1 | with_reducible refine Ext.tr ?_ x2 | with_reducible refine Ext.tr ?_ x3 | with_reducible refine Ext.tr ?_ x4 | with_reducible refine Ext.tr ?_ hx | with_reducible assumption))) hgrow (by intro k hk; simp [Value.ownBlock] at hk; omega)
  have X1 := Lib.hid X
  clear hown hgrow X
  go_wp2_with fail
  refine (sgood_any R.out).mono ?_
  rintro e w' ⟨rfl, rfl⟩
  go_wp2
  go_ret
  exact ⟨rfl, X1.out⟩
/-- A slice at a block's head. -/
abbrev rowG (g n : Nat) : Value := .slice (some ⟨g, 0, none⟩) n n
theorem row_far {k : IntKind} {w : World} {g b o n c : Nat} {u : Value} {xs : List Int} (h : Row k w (.slice (some ⟨g, 0, none⟩) n c) xs) (hne : g ≠ b) : Row k (w.setCell ⟨b, o, none⟩ u) (.slice (some ⟨g, 0, none⟩) n c) xs := by
  obtain ⟨a, c', e, h1, h2, h3⟩ := h
  refine ⟨a, c', e, h1, h2, fun hn => ?_⟩
  obtain ⟨b', o', rfl, hc⟩ := h3 hn
  cases e
  refine ⟨g, 0, rfl, fun i hi => ?_⟩
  rw [cell_set_far _ _ _ _ _ _ (fun e => hne e.symm)]
  exact hc i hi
/-- A row of the call's own: n times a number. -/
theorem square_any {v : Value} {s : List Int} {w : World} (h : Row .i64 w v s) (hl : s.length = 2 ∨ s.length = 3) (x : Int) :
    Calls Tryd.prog 84 #[.int .i64 x, v] w fun e w' => ∃ g : Nat, e = .returned (.slice (some ⟨g, 0, none⟩) (s.length - 1) (s.length - 1)) ∧ Ext w w' ∧ (Row .i64 w' (.slice (some ⟨g, 0, none⟩) (s.length - 1) (s.length - 1)) (List.replicate (s.length - 1) x) ∧ w.heap.size ≤ g) := by
  obtain ⟨a, c, rfl, -⟩ := h
  generalize s.length = n at *
  rcases hl with rfl | rfl
  · go_enter Tryd.func84, Tryd.ntmps84
    go_wp2_with fail
    refine (repeat_one (x := x) (by simp [go_sem])).mono ?_
    rintro e w1 ⟨rfl, x1, b1⟩
    have X1 := Lib.hid x1
    rw [World.size_alloc] at b1
    have B1 := Lib.hid b1
    clear x1 b1
    go_wp2
    go_ret
    exact ⟨_, rfl, by have x1 := X1.out; exact (by repeat (first | with_reducible exact Ext.refl _ | with_reducible apply Ext.drew | with_reducible apply Ext.drewN | with_reducible apply Ext.alloc | ((with_reducible refine Ext.setCell ?_ ?_ _); rotate_left; focus (first | (simp; done) | (simp; omega) | omega)) | with_reducible refine Ext.tr ?_ x1 | with_reducible refine Ext.tr ?_ x2 | with_reducible refine Ext.tr ?_ x3 | with_reducible refine Ext.tr ?_ x4 | with_reducible refine Ext.tr ?_ hx | with_reducible assumption)), Row.of_blk B1.out rfl (by unfold maxLen; omega), by omega⟩
  · go_enter Tryd.func84, Tryd.ntmps84
    go_wp2_with fail
    refine (repeat_two (x := x) (by simp [go_sem])).mono ?_
    rintro e w1 ⟨rfl, x1, b1⟩
    have X1 := Lib.hid x1
    rw [World.size_alloc] at b1
    have B1 := Lib.hid b1
    clear x1 b1
    go_wp2
    go_ret
    exact ⟨_, rfl, by have x1 := X1.out; exact (by repeat (first | with_reducible exact Ext.refl _ | with_reducible apply Ext.drew | with_reducible apply Ext.drewN | with_reducible apply Ext.alloc | ((with_reducible refine Ext.setCell ?_ ?_ _); rotate_left; focus (first | (simp; done) | (simp; omega) | omega)) | with_reducible refine Ext.tr ?_ x1 | with_reducible refine Ext.tr ?_ x2 | with_reducible refine Ext.tr ?_ x3 | with_reducible refine Ext.tr ?_ x4 | with_reducible refine Ext.tr ?_ hx | with_reducible assumption)), Row.of_blk B1.out rfl (by unfold maxLen; omega), by omega⟩
set_option maxHeartbeats 2000000 in
set_option maxRecDepth 100000 in
theorem kernel_any {f : LayF} {ba : Option Addr} {bn bc : Nat} {v : Value} {s : List Int} {w : World} (h : Row .i64 w v s) (hl : s.length = 2 ∨ s.length = 3) :
    Calls Tryd.prog 82 #[.agg (layA f (.slice ba bn bc)), v] w fun e w' => ∃ gs gp gd gk : Nat, e = .returned (.tuple #[.agg #[.slice none 0 0, rowG gs (s.length - 1), rowG gp (s.length - 1), rowG gd (s.length - 1)], rowG gk (s.length - 1)]) ∧ Ext w w' ∧ Row .i64 w' (rowG gs (s.length - 1)) (List.replicate (s.length - 1) (strideS f)) ∧ Row .i64 w' (rowG gp (s.length - 1)) (List.replicate (s.length - 1) f.pad) ∧ Row .i64 w' (rowG gd (s.length - 1)) (List.replicate (s.length - 1) 1) ∧ Row .i64 w' (rowG gk (s.length - 1)) (List.replicate (s.length - 1) f.size) ∧ w.heap.size ≤ gs ∧ w.heap.size ≤ gp ∧ w.heap.size ≤ gd ∧ w.heap.size ≤ gk := by
  obtain ⟨st, hst⟩ : ∃ st, strideS f = st := ⟨_, rfl⟩
  rw [hst]
  obtain ⟨K, I, O, Z, T, P, C, H⟩ := f
  simp only [layA]
  (try simp only at *)
  have R := Lib.hid h
  have SQ := Lib.hid (fun (W : World) (x : Int) (e : Ext w W) => square_any (h.ext e) hl x)
  have S1 := SQ
  have S2 := SQ
  have S3 := SQ
  have S4 := SQ
  clear SQ h
  generalize s.length - 1 = n at *
  by_cases hk : K = 2
  · have t1 : (K != 2) = false := by simp [hk]
    have e : T = st := by rw [← hst]; simp [strideS, hk]
    subst e
    clear hst hk
    go_enter Tryd.func82, Tryd.ntmps82
    go_wp2_with fail
    go_quiet (fail)
    go_wp2_with fail
    go_region_held3 (fun w' => w'.cell? ⟨w.heap.size, 3, none⟩ = some (.int .i64 Z) ∧ w.heap.size + 1 < w'.heap.size ∧ Ext w w')
      (refine ⟨?_, ?_, ?_⟩ <;> first | (simp [go_sem, *]; done) | omega | (simp at z1; omega) | (simp at z2; omega) | (simp at z3; omega) | (simp at z4; omega) | exact (by repeat (first | with_reducible exact Ext.refl _ | with_reducible apply Ext.drew | with_reducible apply Ext.drewN | with_reducible apply Ext.alloc | ((with_reducible refine Ext.setCell ?_ ?_ _); rotate_left; focus (first | (simp; done) | (simp; omega) | omega)) | with_reducible refine Ext.tr ?_ x1 | with_reducible refine Ext.tr ?_ x2 | with_reducible refine Ext.tr ?_ x3 | with_reducible refine Ext.tr ?_ x4 | with_reducible refine Ext.tr ?_ hx | with_reducible assumption)))
      (first
        | ((go_at_call 84; refine (S1.out _ _ (by repeat (first | with_reducible exact Ext.refl _ | with_reducible apply Ext.drew | with_reducible apply Ext.drewN | with_reducible apply Ext.alloc | ((with_reducible refine Ext.setCell ?_ ?_ _); rotate_left; focus (first | (simp; done) | (simp; omega) | omega)) | with_reducible refine Ext.tr ?_ x1 | with_reducible refine Ext.tr ?_ x2 | with_reducible refine Ext.tr ?_ x3 | with_reducible refine Ext.tr ?_ x4 | with_reducible refine Ext.tr ?_ hx | with_reducible assumption))).mono ?_; rintro e v1 ⟨q1, rfl, x1, h1⟩; obtain ⟨c1, f1⟩ := x1.rules; have z1 := x1.size; have k1_0_0 := c1 (w.heap.size) 0 (by first | (simp; done) | (simp; omega) | omega); have q1_0_0 := f1 (w.heap.size) 0 (by first | (simp; done) | (simp; omega) | omega); have k1_0_1 := c1 (w.heap.size) 1 (by first | (simp; done) | (simp; omega) | omega); have q1_0_1 := f1 (w.heap.size) 1 (by first | (simp; done) | (simp; omega) | omega); have k1_0_2 := c1 (w.heap.size) 2 (by first | (simp; done) | (simp; omega) | omega); have q1_0_2 := f1 (w.heap.size) 2 (by first | (simp; done) | (simp; omega) | omega); have k1_0_3 := c1 (w.heap.size) 3 (by first | (simp; done) | (simp; omega) | omega); have q1_0_3 := f1 (w.heap.size) 3 (by first | (simp; done) | (simp; omega) | omega); have k1_1_0 := c1 (w.heap.size + 1) 0 (by first | (simp; done) | (simp; omega) | omega); have q1_1_0 := f1 (w.heap.size + 1) 0 (by first | (simp; done) | (simp; omega) | omega); have k1_1_1 := c1 (w.heap.size + 1) 1 (by first | (simp; done) | (simp; omega) | omega); have q1_1_1 := f1 (w.heap.size + 1) 1 (by first | (simp; done) | (simp; omega) | omega); have k1_1_2 := c1 (w.heap.size + 1) 2 (by first | (simp; done) | (simp; omega) | omega); have q1_1_2 := f1 (w.heap.size + 1) 2 (by first | (simp; done) | (simp; omega) | omega); have k1_1_3 := c1 (w.heap.size + 1) 3 (by first | (simp; done) | (simp; omega) | omega); have q1_1_3 := f1 (w.heap.size + 1) 3 (by first | (simp; done) | (simp; omega) | omega); have z1_0 : w.heap.size < v1.heap.size := (by (try simp at z1); omega); have z1_1 : w.heap.size + 1 < v1.heap.size := (by (try simp at z1); omega); (try simp at z1); clear c1 f1; simp [go_sem, *] at k1_0_0 q1_0_0 k1_0_1 q1_0_1 k1_0_2 q1_0_2 k1_0_3 q1_0_3 k1_1_0 q1_1_0 k1_1_1 q1_1_1 k1_1_2 q1_1_2 k1_1_3 q1_1_3); clear S1; have H1 := Lib.hid h1; clear h1)
        | ((go_at_call 84; refine (S2.out _ _ (by repeat (first | with_reducible exact Ext.refl _ | with_reducible apply Ext.drew | with_reducible apply Ext.drewN | with_reducible apply Ext.alloc | ((with_reducible refine Ext.setCell ?_ ?_ _); rotate_left; focus (first | (simp; done) | (simp; omega) | omega)) | with_reducible refine Ext.tr ?_ x1 | with_reducible refine Ext.tr ?_ x2 | with_reducible refine Ext.tr ?_ x3 | with_reducible refine Ext.tr ?_ x4 | with_reducible refine Ext.tr ?_ hx | with_reducible assumption))).mono ?_; rintro e v2 ⟨q2, rfl, x2, h2⟩; obtain ⟨c2, f2⟩ := x2.rules; have z2 := x2.size; have k2_0_0 := c2 (w.heap.size) 0 (by first | (simp; done) | (simp; omega) | omega); have q2_0_0 := f2 (w.heap.size) 0 (by first | (simp; done) | (simp; omega) | omega); have k2_0_1 := c2 (w.heap.size) 1 (by first | (simp; done) | (simp; omega) | omega); have q2_0_1 := f2 (w.heap.size) 1 (by first | (simp; done) | (simp; omega) | omega); have k2_0_2 := c2 (w.heap.size) 2 (by first | (simp; done) | (simp; omega) | omega); have q2_0_2 := f2 (w.heap.size) 2 (by first | (simp; done) | (simp; omega) | omega); have k2_0_3 := c2 (w.heap.size) 3 (by first | (simp; done) | (simp; omega) | omega); have q2_0_3 := f2 (w.heap.size) 3 (by first | (simp; done) | (simp; omega) | omega); have k2_1_0 := c2 (w.heap.size + 1) 0 (by first | (simp; done) | (simp; omega) | omega); have q2_1_0 := f2 (w.heap.size + 1) 0 (by first | (simp; done) | (simp; omega) | omega); have k2_1_1 := c2 (w.heap.size + 1) 1 (by first | (simp; done) | (simp; omega) | omega); have q2_1_1 := f2 (w.heap.size + 1) 1 (by first | (simp; done) | (simp; omega) | omega); have k2_1_2 := c2 (w.heap.size + 1) 2 (by first | (simp; done) | (simp; omega) | omega); have q2_1_2 := f2 (w.heap.size + 1) 2 (by first | (simp; done) | (simp; omega) | omega); have k2_1_3 := c2 (w.heap.size + 1) 3 (by first | (simp; done) | (simp; omega) | omega); have q2_1_3 := f2 (w.heap.size + 1) 3 (by first | (simp; done) | (simp; omega) | omega); have z2_0 : w.heap.size < v2.heap.size := (by (try simp at z2); omega); have z2_1 : w.heap.size + 1 < v2.heap.size := (by (try simp at z2); omega); (try simp at z2); clear c2 f2; simp [go_sem, *] at k2_0_0 q2_0_0 k2_0_1 q2_0_1 k2_0_2 q2_0_2 k2_0_3 q2_0_3 k2_1_0 q2_1_0 k2_1_1 q2_1_1 k2_1_2 q2_1_2 k2_1_3 q2_1_3); clear S2; have H2 := Lib.hid h2; clear h2)
        | ((go_at_call 84; refine (S3.out _ _ (by repeat (first | with_reducible exact Ext.refl _ | with_reducible apply Ext.drew | with_reducible apply Ext.drewN | with_reducible apply Ext.alloc | ((with_reducible refine Ext.setCell ?_ ?_ _); rotate_left; focus (first | (simp; done) | (simp; omega) | omega)) | with_reducible refine Ext.tr ?_ x1 | with_reducible refine Ext.tr ?_ x2 | with_reducible refine Ext.tr ?_ x3 | with_reducible refine Ext.tr ?_ x4 | with_reducible refine Ext.tr ?_ hx | with_reducible assumption))).mono ?_; rintro e v3 ⟨q3, rfl, x3, h3⟩; obtain ⟨c3, f3⟩ := x3.rules; have z3 := x3.size; have k3_0_0 := c3 (w.heap.size) 0 (by first | (simp; done) | (simp; omega) | omega); have q3_0_0 := f3 (w.heap.size) 0 (by first | (simp; done) | (simp; omega) | omega); have k3_0_1 := c3 (w.heap.size) 1 (by first | (simp; done) | (simp; omega) | omega); have q3_0_1 := f3 (w.heap.size) 1 (by first | (simp; done) | (simp; omega) | omega); have k3_0_2 := c3 (w.heap.size) 2 (by first | (simp; done) | (simp; omega) | omega); have q3_0_2 := f3 (w.heap.size) 2 (by first | (simp; done) | (simp; omega) | omega); have k3_0_3 := c3 (w.heap.size) 3 (by first | (simp; done) | (simp; omega) | omega); have q3_0_3 := f3 (w.heap.size) 3 (by first | (simp; done) | (simp; omega) | omega); have k3_1_0 := c3 (w.heap.size + 1) 0 (by first | (simp; done) | (simp; omega) | omega); have q3_1_0 := f3 (w.heap.size + 1) 0 (by first | (simp; done) | (simp; omega) | omega); have k3_1_1 := c3 (w.heap.size + 1) 1 (by first | (simp; done) | (simp; omega) | omega); have q3_1_1 := f3 (w.heap.size + 1) 1 (by first | (simp; done) | (simp; omega) | omega); have k3_1_2 := c3 (w.heap.size + 1) 2 (by first | (simp; done) | (simp; omega) | omega); have q3_1_2 := f3 (w.heap.size + 1) 2 (by first | (simp; done) | (simp; omega) | omega); have k3_1_3 := c3 (w.heap.size + 1) 3 (by first | (simp; done) | (simp; omega) | omega); have q3_1_3 := f3 (w.heap.size + 1) 3 (by first | (simp; done) | (simp; omega) | omega); have z3_0 : w.heap.size < v3.heap.size := (by (try simp at z3); omega); have z3_1 : w.heap.size + 1 < v3.heap.size := (by (try simp at z3); omega); (try simp at z3); clear c3 f3; simp [go_sem, *] at k3_0_0 q3_0_0 k3_0_1 q3_0_1 k3_0_2 q3_0_2 k3_0_3 q3_0_3 k3_1_0 q3_1_0 k3_1_1 q3_1_1 k3_1_2 q3_1_2 k3_1_3 q3_1_3); clear S3; have H3 := Lib.hid h3; clear h3)
        | ((go_at_call 84; refine (S4.out _ _ (by repeat (first | with_reducible exact Ext.refl _ | with_reducible apply Ext.drew | with_reducible apply Ext.drewN | with_reducible apply Ext.alloc | ((with_reducible refine Ext.setCell ?_ ?_ _); rotate_left; focus (first | (simp; done) | (simp; omega) | omega)) | with_reducible refine Ext.tr ?_ x1 | with_reducible refine Ext.tr ?_ x2 | with_reducible refine Ext.tr ?_ x3 | with_reducible refine Ext.tr ?_ x4 | with_reducible refine Ext.tr ?_ hx | with_reducible assumption))).mono ?_; rintro e v4 ⟨q4, rfl, x4, h4⟩; obtain ⟨c4, f4⟩ := x4.rules; have z4 := x4.size; have k4_0_0 := c4 (w.heap.size) 0 (by first | (simp; done) | (simp; omega) | omega); have q4_0_0 := f4 (w.heap.size) 0 (by first | (simp; done) | (simp; omega) | omega); have k4_0_1 := c4 (w.heap.size) 1 (by first | (simp; done) | (simp; omega) | omega); have q4_0_1 := f4 (w.heap.size) 1 (by first | (simp; done) | (simp; omega) | omega); have k4_0_2 := c4 (w.heap.size) 2 (by first | (simp; done) | (simp; omega) | omega); have q4_0_2 := f4 (w.heap.size) 2 (by first | (simp; done) | (simp; omega) | omega); have k4_0_3 := c4 (w.heap.size) 3 (by first | (simp; done) | (simp; omega) | omega); have q4_0_3 := f4 (w.heap.size) 3 (by first | (simp; done) | (simp; omega) | omega); have k4_1_0 := c4 (w.heap.size + 1) 0 (by first | (simp; done) | (simp; omega) | omega); have q4_1_0 := f4 (w.heap.size + 1) 0 (by first | (simp; done) | (simp; omega) | omega); have k4_1_1 := c4 (w.heap.size + 1) 1 (by first | (simp; done) | (simp; omega) | omega); have q4_1_1 := f4 (w.heap.size + 1) 1 (by first | (simp; done) | (simp; omega) | omega); have k4_1_2 := c4 (w.heap.size + 1) 2 (by first | (simp; done) | (simp; omega) | omega); have q4_1_2 := f4 (w.heap.size + 1) 2 (by first | (simp; done) | (simp; omega) | omega); have k4_1_3 := c4 (w.heap.size + 1) 3 (by first | (simp; done) | (simp; omega) | omega); have q4_1_3 := f4 (w.heap.size + 1) 3 (by first | (simp; done) | (simp; omega) | omega); have z4_0 : w.heap.size < v4.heap.size := (by (try simp at z4); omega); have z4_1 : w.heap.size + 1 < v4.heap.size := (by (try simp at z4); omega); (try simp at z4); clear c4 f4; simp [go_sem, *] at k4_0_0 q4_0_0 k4_0_1 q4_0_1 k4_0_2 q4_0_2 k4_0_3 q4_0_3 k4_1_0 q4_1_0 k4_1_1 q4_1_1 k4_1_2 q4_1_2 k4_1_3 q4_1_3); clear S4; have H4 := Lib.hid h4; clear h4))
    all_goals
      obtain ⟨r1, b1⟩ := H1.out
      obtain ⟨r2, b2⟩ := H2.out
      obtain ⟨r3, b3⟩ := H3.out
      obtain ⟨r4, b4⟩ := H4.out
      simp at b1
      have n1 : q1 ≠ w.heap.size + 1 := by omega
      have n2 : q2 ≠ w.heap.size + 1 := by omega
      have n3 : q3 ≠ w.heap.size + 1 := by omega
      have n4 : q4 ≠ w.heap.size + 1 := by omega
      have m1 : w.heap.size ≤ q1 := by omega
      have m2 : w.heap.size ≤ q2 := by omega
      have m3 : w.heap.size ≤ q3 := by omega
      have m4 : w.heap.size ≤ q4 := by omega
      have R1 := Lib.hid (r1.ext (show Ext v1 v4 from (by repeat (first | with_reducible exact Ext.refl _ | with_reducible apply Ext.drew | with_reducible apply Ext.drewN | with_reducible apply Ext.alloc | ((with_reducible refine Ext.setCell ?_ ?_ _); rotate_left; focus (first | (simp; done) | (simp; omega) | omega)) | with_reducible refine Ext.tr ?_ x1 | with_reducible refine Ext.tr ?_ x2 | with_reducible refine Ext.tr ?_ x3 | with_reducible refine Ext.tr ?_ x4 | with_reducible refine Ext.tr ?_ hx | with_reducible assumption))))
      have R2 := Lib.hid (r2.ext (show Ext v2 v4 from (by repeat (first | with_reducible exact Ext.refl _ | with_reducible apply Ext.drew | with_reducible apply Ext.drewN | with_reducible apply Ext.alloc | ((with_reducible refine Ext.setCell ?_ ?_ _); rotate_left; focus (first | (simp; done) | (simp; omega) | omega)) | with_reducible refine Ext.tr ?_ x1 | with_reducible refine Ext.tr ?_ x2 | with_reducible refine Ext.tr ?_ x3 | with_reducible refine Ext.tr ?_ x4 | with_reducible refine Ext.tr ?_ hx | with_reducible assumption))))
      have R3 := Lib.hid (r3.ext (show Ext v3 v4 from (by repeat (first | with_reducible exact Ext.refl _ | with_reducible apply Ext.drew | with_reducible apply Ext.drewN | with_reducible apply Ext.alloc | ((with_reducible refine Ext.setCell ?_ ?_ _); rotate_left; focus (first | (simp; done) | (simp; omega) | omega)) | with_reducible refine Ext.tr ?_ x1 | with_reducible refine Ext.tr ?_ x2 | with_reducible refine Ext.tr ?_ x3 | with_reducible refine Ext.tr ?_ x4 | with_reducible refine Ext.tr ?_ hx | with_reducible assumption))))
      have R4 := Lib.hid r4
      clear r1 r2 r3 r4 b1 b2 b3 b4 H1 H2 H3 H4
      go_wp2
      refine bodyPost_ret (v := .tuple #[.agg #[.slice none 0 0, rowG q1 n, rowG q2 n, rowG q3 n], rowG q4 n]) (by simp [results, Tryd.results82, go_sem, *]) rfl ⟨q1, q2, q3, q4, rfl, (by repeat (first | with_reducible exact Ext.refl _ | with_reducible apply Ext.drew | with_reducible apply Ext.drewN | with_reducible apply Ext.alloc | ((with_reducible refine Ext.setCell ?_ ?_ _); rotate_left; focus (first | (simp; done) | (simp; omega) | omega)) | with_reducible refine Ext.tr ?_ x1 | with_reducible refine Ext.tr ?_ x2 | with_reducible refine Ext.tr ?_ x3 | with_reducible refine Ext.tr ?_ x4 | with_reducible refine Ext.tr ?_ hx | with_reducible assumption)), row_far (row_far (row_far (row_far R1.out n1) n1) n1) n1, row_far (row_far (row_far (row_far R2.out n2) n2) n2) n2, row_far (row_far (row_far (row_far R3.out n3) n3) n3) n3, row_far (row_far (row_far (row_far R4.out n4) n4) n4) n4, m1, m2, m3, m4⟩
  · have t1 : (K != 2) = true := by simp [hk]
    have e : Z = st := by rw [← hst]; simp [strideS, hk]
    subst e
    clear hst hk
    go_enter Tryd.func82, Tryd.ntmps82
    go_wp2_with fail
    go_quiet (fail)
    go_wp2_with fail
    go_region_held3 (fun w' => w'.cell? ⟨w.heap.size, 3, none⟩ = some (.int .i64 Z) ∧ w.heap.size + 1 < w'.heap.size ∧ Ext w w')
      (refine ⟨?_, ?_, ?_⟩ <;> first | (simp [go_sem, *]; done) | omega | (simp at z1; omega) | (simp at z2; omega) | (simp at z3; omega) | (simp at z4; omega) | exact (by repeat (first | with_reducible exact Ext.refl _ | with_reducible apply Ext.drew | with_reducible apply Ext.drewN | with_reducible apply Ext.alloc | ((with_reducible refine Ext.setCell ?_ ?_ _); rotate_left; focus (first | (simp; done) | (simp; omega) | omega)) | with_reducible refine Ext.tr ?_ x1 | with_reducible refine Ext.tr ?_ x2 | with_reducible refine Ext.tr ?_ x3 | with_reducible refine Ext.tr ?_ x4 | with_reducible refine Ext.tr ?_ hx | with_reducible assumption)))
      (first
        | ((go_at_call 84; refine (S1.out _ _ (by repeat (first | with_reducible exact Ext.refl _ | with_reducible apply Ext.drew | with_reducible apply Ext.drewN | with_reducible apply Ext.alloc | ((with_reducible refine Ext.setCell ?_ ?_ _); rotate_left; focus (first | (simp; done) | (simp; omega) | omega)) | with_reducible refine Ext.tr ?_ x1 | with_reducible refine Ext.tr ?_ x2 | with_reducible refine Ext.tr ?_ x3 | with_reducible refine Ext.tr ?_ x4 | with_reducible refine Ext.tr ?_ hx | with_reducible assumption))).mono ?_; rintro e v1 ⟨q1, rfl, x1, h1⟩; obtain ⟨c1, f1⟩ := x1.rules; have z1 := x1.size; have k1_0_0 := c1 (w.heap.size) 0 (by first | (simp; done) | (simp; omega) | omega); have q1_0_0 := f1 (w.heap.size) 0 (by first | (simp; done) | (simp; omega) | omega); have k1_0_1 := c1 (w.heap.size) 1 (by first | (simp; done) | (simp; omega) | omega); have q1_0_1 := f1 (w.heap.size) 1 (by first | (simp; done) | (simp; omega) | omega); have k1_0_2 := c1 (w.heap.size) 2 (by first | (simp; done) | (simp; omega) | omega); have q1_0_2 := f1 (w.heap.size) 2 (by first | (simp; done) | (simp; omega) | omega); have k1_0_3 := c1 (w.heap.size) 3 (by first | (simp; done) | (simp; omega) | omega); have q1_0_3 := f1 (w.heap.size) 3 (by first | (simp; done) | (simp; omega) | omega); have k1_1_0 := c1 (w.heap.size + 1) 0 (by first | (simp; done) | (simp; omega) | omega); have q1_1_0 := f1 (w.heap.size + 1) 0 (by first | (simp; done) | (simp; omega) | omega); have k1_1_1 := c1 (w.heap.size + 1) 1 (by first | (simp; done) | (simp; omega) | omega); have q1_1_1 := f1 (w.heap.size + 1) 1 (by first | (simp; done) | (simp; omega) | omega); have k1_1_2 := c1 (w.heap.size + 1) 2 (by first | (simp; done) | (simp; omega) | omega); have q1_1_2 := f1 (w.heap.size + 1) 2 (by first | (simp; done) | (simp; omega) | omega); have k1_1_3 := c1 (w.heap.size + 1) 3 (by first | (simp; done) | (simp; omega) | omega); have q1_1_3 := f1 (w.heap.size + 1) 3 (by first | (simp; done) | (simp; omega) | omega); have z1_0 : w.heap.size < v1.heap.size := (by (try simp at z1); omega); have z1_1 : w.heap.size + 1 < v1.heap.size := (by (try simp at z1); omega); (try simp at z1); clear c1 f1; simp [go_sem, *] at k1_0_0 q1_0_0 k1_0_1 q1_0_1 k1_0_2 q1_0_2 k1_0_3 q1_0_3 k1_1_0 q1_1_0 k1_1_1 q1_1_1 k1_1_2 q1_1_2 k1_1_3 q1_1_3); clear S1; have H1 := Lib.hid h1; clear h1)
        | ((go_at_call 84; refine (S2.out _ _ (by repeat (first | with_reducible exact Ext.refl _ | with_reducible apply Ext.drew | with_reducible apply Ext.drewN | with_reducible apply Ext.alloc | ((with_reducible refine Ext.setCell ?_ ?_ _); rotate_left; focus (first | (simp; done) | (simp; omega) | omega)) | with_reducible refine Ext.tr ?_ x1 | with_reducible refine Ext.tr ?_ x2 | with_reducible refine Ext.tr ?_ x3 | with_reducible refine Ext.tr ?_ x4 | with_reducible refine Ext.tr ?_ hx | with_reducible assumption))).mono ?_; rintro e v2 ⟨q2, rfl, x2, h2⟩; obtain ⟨c2, f2⟩ := x2.rules; have z2 := x2.size; have k2_0_0 := c2 (w.heap.size) 0 (by first | (simp; done) | (simp; omega) | omega); have q2_0_0 := f2 (w.heap.size) 0 (by first | (simp; done) | (simp; omega) | omega); have k2_0_1 := c2 (w.heap.size) 1 (by first | (simp; done) | (simp; omega) | omega); have q2_0_1 := f2 (w.heap.size) 1 (by first | (simp; done) | (simp; omega) | omega); have k2_0_2 := c2 (w.heap.size) 2 (by first | (simp; done) | (simp; omega) | omega); have q2_0_2 := f2 (w.heap.size) 2 (by first | (simp; done) | (simp; omega) | omega); have k2_0_3 := c2 (w.heap.size) 3 (by first | (simp; done) | (simp; omega) | omega); have q2_0_3 := f2 (w.heap.size) 3 (by first | (simp; done) | (simp; omega) | omega); have k2_1_0 := c2 (w.heap.size + 1) 0 (by first | (simp; done) | (simp; omega) | omega); have q2_1_0 := f2 (w.heap.size + 1) 0 (by first | (simp; done) | (simp; omega) | omega); have k2_1_1 := c2 (w.heap.size + 1) 1 (by first | (simp; done) | (simp; omega) | omega); have q2_1_1 := f2 (w.heap.size + 1) 1 (by first | (simp; done) | (simp; omega) | omega); have k2_1_2 := c2 (w.heap.size + 1) 2 (by first | (simp; done) | (simp; omega) | omega); have q2_1_2 := f2 (w.heap.size + 1) 2 (by first | (simp; done) | (simp; omega) | omega); have k2_1_3 := c2 (w.heap.size + 1) 3 (by first | (simp; done) | (simp; omega) | omega); have q2_1_3 := f2 (w.heap.size + 1) 3 (by first | (simp; done) | (simp; omega) | omega); have z2_0 : w.heap.size < v2.heap.size := (by (try simp at z2); omega); have z2_1 : w.heap.size + 1 < v2.heap.size := (by (try simp at z2); omega); (try simp at z2); clear c2 f2; simp [go_sem, *] at k2_0_0 q2_0_0 k2_0_1 q2_0_1 k2_0_2 q2_0_2 k2_0_3 q2_0_3 k2_1_0 q2_1_0 k2_1_1 q2_1_1 k2_1_2 q2_1_2 k2_1_3 q2_1_3); clear S2; have H2 := Lib.hid h2; clear h2)
        | ((go_at_call 84; refine (S3.out _ _ (by repeat (first | with_reducible exact Ext.refl _ | with_reducible apply Ext.drew | with_reducible apply Ext.drewN | with_reducible apply Ext.alloc | ((with_reducible refine Ext.setCell ?_ ?_ _); rotate_left; focus (first | (simp; done) | (simp; omega) | omega)) | with_reducible refine Ext.tr ?_ x1 | with_reducible refine Ext.tr ?_ x2 | with_reducible refine Ext.tr ?_ x3 | with_reducible refine Ext.tr ?_ x4 | with_reducible refine Ext.tr ?_ hx | with_reducible assumption))).mono ?_; rintro e v3 ⟨q3, rfl, x3, h3⟩; obtain ⟨c3, f3⟩ := x3.rules; have z3 := x3.size; have k3_0_0 := c3 (w.heap.size) 0 (by first | (simp; done) | (simp; omega) | omega); have q3_0_0 := f3 (w.heap.size) 0 (by first | (simp; done) | (simp; omega) | omega); have k3_0_1 := c3 (w.heap.size) 1 (by first | (simp; done) | (simp; omega) | omega); have q3_0_1 := f3 (w.heap.size) 1 (by first | (simp; done) | (simp; omega) | omega); have k3_0_2 := c3 (w.heap.size) 2 (by first | (simp; done) | (simp; omega) | omega); have q3_0_2 := f3 (w.heap.size) 2 (by first | (simp; done) | (simp; omega) | omega); have k3_0_3 := c3 (w.heap.size) 3 (by first | (simp; done) | (simp; omega) | omega); have q3_0_3 := f3 (w.heap.size) 3 (by first | (simp; done) | (simp; omega) | omega); have k3_1_0 := c3 (w.heap.size + 1) 0 (by first | (simp; done) | (simp; omega) | omega); have q3_1_0 := f3 (w.heap.size + 1) 0 (by first | (simp; done) | (simp; omega) | omega); have k3_1_1 := c3 (w.heap.size + 1) 1 (by first | (simp; done) | (simp; omega) | omega); have q3_1_1 := f3 (w.heap.size + 1) 1 (by first | (simp; done) | (simp; omega) | omega); have k3_1_2 := c3 (w.heap.size + 1) 2 (by first | (simp; done) | (simp; omega) | omega); have q3_1_2 := f3 (w.heap.size + 1) 2 (by first | (simp; done) | (simp; omega) | omega); have k3_1_3 := c3 (w.heap.size + 1) 3 (by first | (simp; done) | (simp; omega) | omega); have q3_1_3 := f3 (w.heap.size + 1) 3 (by first | (simp; done) | (simp; omega) | omega); have z3_0 : w.heap.size < v3.heap.size := (by (try simp at z3); omega); have z3_1 : w.heap.size + 1 < v3.heap.size := (by (try simp at z3); omega); (try simp at z3); clear c3 f3; simp [go_sem, *] at k3_0_0 q3_0_0 k3_0_1 q3_0_1 k3_0_2 q3_0_2 k3_0_3 q3_0_3 k3_1_0 q3_1_0 k3_1_1 q3_1_1 k3_1_2 q3_1_2 k3_1_3 q3_1_3); clear S3; have H3 := Lib.hid h3; clear h3)
        | ((go_at_call 84; refine (S4.out _ _ (by repeat (first | with_reducible exact Ext.refl _ | with_reducible apply Ext.drew | with_reducible apply Ext.drewN | with_reducible apply Ext.alloc | ((with_reducible refine Ext.setCell ?_ ?_ _); rotate_left; focus (first | (simp; done) | (simp; omega) | omega)) | with_reducible refine Ext.tr ?_ x1 | with_reducible refine Ext.tr ?_ x2 | with_reducible refine Ext.tr ?_ x3 | with_reducible refine Ext.tr ?_ x4 | with_reducible refine Ext.tr ?_ hx | with_reducible assumption))).mono ?_; rintro e v4 ⟨q4, rfl, x4, h4⟩; obtain ⟨c4, f4⟩ := x4.rules; have z4 := x4.size; have k4_0_0 := c4 (w.heap.size) 0 (by first | (simp; done) | (simp; omega) | omega); have q4_0_0 := f4 (w.heap.size) 0 (by first | (simp; done) | (simp; omega) | omega); have k4_0_1 := c4 (w.heap.size) 1 (by first | (simp; done) | (simp; omega) | omega); have q4_0_1 := f4 (w.heap.size) 1 (by first | (simp; done) | (simp; omega) | omega); have k4_0_2 := c4 (w.heap.size) 2 (by first | (simp; done) | (simp; omega) | omega); have q4_0_2 := f4 (w.heap.size) 2 (by first | (simp; done) | (simp; omega) | omega); have k4_0_3 := c4 (w.heap.size) 3 (by first | (simp; done) | (simp; omega) | omega); have q4_0_3 := f4 (w.heap.size) 3 (by first | (simp; done) | (simp; omega) | omega); have k4_1_0 := c4 (w.heap.size + 1) 0 (by first | (simp; done) | (simp; omega) | omega); have q4_1_0 := f4 (w.heap.size + 1) 0 (by first | (simp; done) | (simp; omega) | omega); have k4_1_1 := c4 (w.heap.size + 1) 1 (by first | (simp; done) | (simp; omega) | omega); have q4_1_1 := f4 (w.heap.size + 1) 1 (by first | (simp; done) | (simp; omega) | omega); have k4_1_2 := c4 (w.heap.size + 1) 2 (by first | (simp; done) | (simp; omega) | omega); have q4_1_2 := f4 (w.heap.size + 1) 2 (by first | (simp; done) | (simp; omega) | omega); have k4_1_3 := c4 (w.heap.size + 1) 3 (by first | (simp; done) | (simp; omega) | omega); have q4_1_3 := f4 (w.heap.size + 1) 3 (by first | (simp; done) | (simp; omega) | omega); have z4_0 : w.heap.size < v4.heap.size := (by (try simp at z4); omega); have z4_1 : w.heap.size + 1 < v4.heap.size := (by (try simp at z4); omega); (try simp at z4); clear c4 f4; simp [go_sem, *] at k4_0_0 q4_0_0 k4_0_1 q4_0_1 k4_0_2 q4_0_2 k4_0_3 q4_0_3 k4_1_0 q4_1_0 k4_1_1 q4_1_1 k4_1_2 q4_1_2 k4_1_3 q4_1_3); clear S4; have H4 := Lib.hid h4; clear h4))
    all_goals
      obtain ⟨r1, b1⟩ := H1.out
      obtain ⟨r2, b2⟩ := H2.out
      obtain ⟨r3, b3⟩ := H3.out
      obtain ⟨r4, b4⟩ := H4.out
      simp at b1
      have n1 : q1 ≠ w.heap.size + 1 := by omega
      have n2 : q2 ≠ w.heap.size + 1 := by omega
      have n3 : q3 ≠ w.heap.size + 1 := by omega
      have n4 : q4 ≠ w.heap.size + 1 := by omega
      have m1 : w.heap.size ≤ q1 := by omega
      have m2 : w.heap.size ≤ q2 := by omega
      have m3 : w.heap.size ≤ q3 := by omega
      have m4 : w.heap.size ≤ q4 := by omega
      have R1 := Lib.hid (r1.ext (show Ext v1 v4 from (by repeat (first | with_reducible exact Ext.refl _ | with_reducible apply Ext.drew | with_reducible apply Ext.drewN | with_reducible apply Ext.alloc | ((with_reducible refine Ext.setCell ?_ ?_ _); rotate_left; focus (first | (simp; done) | (simp; omega) | omega)) | with_reducible refine Ext.tr ?_ x1 | with_reducible refine Ext.tr ?_ x2 | with_reducible refine Ext.tr ?_ x3 | with_reducible refine Ext.tr ?_ x4 | with_reducible refine Ext.tr ?_ hx | with_reducible assumption))))
      have R2 := Lib.hid (r2.ext (show Ext v2 v4 from (by repeat (first | with_reducible exact Ext.refl _ | with_reducible apply Ext.drew | with_reducible apply Ext.drewN | with_reducible apply Ext.alloc | ((with_reducible refine Ext.setCell ?_ ?_ _); rotate_left; focus (first | (simp; done) | (simp; omega) | omega)) | with_reducible refine Ext.tr ?_ x1 | with_reducible refine Ext.tr ?_ x2 | with_reducible refine Ext.tr ?_ x3 | with_reducible refine Ext.tr ?_ x4 | with_reducible refine Ext.tr ?_ hx | with_reducible assumption))))
      have R3 := Lib.hid (r3.ext (show Ext v3 v4 from (by repeat (first | with_reducible exact Ext.refl _ | with_reducible apply Ext.drew | with_reducible apply Ext.drewN | with_reducible apply Ext.alloc | ((with_reducible refine Ext.setCell ?_ ?_ _); rotate_left; focus (first | (simp; done) | (simp; omega) | omega)) | with_reducible refine Ext.tr ?_ x1 | with_reducible refine Ext.tr ?_ x2 | with_reducible refine Ext.tr ?_ x3 | with_reducible refine Ext.tr ?_ x4 | with_reducible refine Ext.tr ?_ hx | with_reducible assumption))))
      have R4 := Lib.hid r4
      clear r1 r2 r3 r4 b1 b2 b3 b4 H1 H2 H3 H4
      go_wp2
      refine bodyPost_ret (v := .tuple #[.agg #[.slice none 0 0, rowG q1 n, rowG q2 n, rowG q3 n], rowG q4 n]) (by simp [results, Tryd.results82, go_sem, *]) rfl ⟨q1, q2, q3, q4, rfl, (by repeat (first | with_reducible exact Ext.refl _ | with_reducible apply Ext.drew | with_reducible apply Ext.drewN | with_reducible apply Ext.alloc | ((with_reducible refine Ext.setCell ?_ ?_ _); rotate_left; focus (first | (simp; done) | (simp; omega) | omega)) | with_reducible refine Ext.tr ?_ x1 | with_reducible refine Ext.tr ?_ x2 | with_reducible refine Ext.tr ?_ x3 | with_reducible refine Ext.tr ?_ x4 | with_reducible refine Ext.tr ?_ hx | with_reducible assumption)), row_far (row_far (row_far (row_far R1.out n1) n1) n1) n1, row_far (row_far (row_far (row_far R2.out n2) n2) n2) n2, row_far (row_far (row_far (row_far R3.out n3) n3) n3) n3, row_far (row_far (row_far (row_far R4.out n4) n4) n4) n4, m1, m2, m3, m4⟩
end Go.Proofs.YtgokenbojppnhaaDoor
