/- math/bits.Len64 (the lines of the kit's worked contract, turned to this program). wide.Left; the arithmetic of shifts by a variable number of bits. wide.Shift, by fewer than 64 bits; what it tells. Powers of 2. Rows of digits, and their numbers. ref90: halves. ref90: whole. ref90: NPlus. ref90: NLess. ref90: NTimes. ref90: NOf, NCmp. ref90: Up2. ref90: NLen, Down2. ref90: Down2. ref90: short. -/
import Derived.Test.YtgokenbojppnhaaDoorProg
import Derived.Lib.Strings
import Derived.Lib.Slices
import Derived.Lib.Small
import Derived.Lib.Walk
import Derived.Lib.BitFns
import Derived.Test.YtgokenbojppnhaaDoorFx
import Derived.Laws.ShiftsVar
import Derived.Laws.ShiftsVarLaws
import Derived.Test.YtgokenbojppnhaaDoorGb
import Derived.WalkKit
import Derived.Laws.AppendOwn
import Derived.WalkSpells
import Derived.OwnWalk
import Derived.Laws.OwnMore
import Derived.Deep.RegionHeld3
import Derived.Deep.AppendLies
import Derived.BigQuiet
namespace Go.Proofs.YtgokenbojppnhaaDoor
end Go.Proofs.YtgokenbojppnhaaDoor
namespace Go.Proofs.YtgokenbojppnhaaDoor
open Go.RowKit
theorem or_disj (a b : Int) (k : Nat) (h1 : 0 ≤ a) (h2 : 0 ≤ b) (h3 : b < 2 ^ k) (h4 : a % 2 ^ k = 0) (h5 : a < 18446744073709551616) (h6 : b < 18446744073709551616) : bits .or .u64 a b = a + b := by
  obtain ⟨a, rfl⟩ := Int.eq_ofNat_of_zero_le h1
  obtain ⟨b, rfl⟩ := Int.eq_ofNat_of_zero_le h2
  rw [u64_or_nat a b (by omega) (by omega), nat_join k a b (by exact_mod_cast h4) (by exact_mod_cast h3)]
  exact Int.natCast_add a b
end Go.Proofs.YtgokenbojppnhaaDoor
namespace Go.Proofs.YtgokenbojppnhaaDoor
open Go.RowKit
end Go.Proofs.YtgokenbojppnhaaDoor
namespace Go.Proofs.YtgokenbojppnhaaDoor
open Go.RowKit
theorem pow_mono' {B : Int} (hB : 1 ≤ B) {m n : Nat} (h : m ≤ n) : B ^ m ≤ B ^ n := by
  obtain ⟨k, rfl⟩ := Nat.exists_eq_add_of_le h
  rw [Int.pow_add]
  have h1 : (0 : Int) < B ^ m := Int.pow_pos (by omega)
  have h2 : (0 : Int) < B ^ k := Int.pow_pos (by omega)
  have := Int.mul_le_mul_of_nonneg_left (show (1 : Int) ≤ B ^ k by omega) (Int.le_of_lt h1)
  omega
end Go.Proofs.YtgokenbojppnhaaDoor
namespace Go.Proofs.YtgokenbojppnhaaDoor
open Go.RowKit
/-- The number of a list of digits, the lowest first. -/
def val (B : Int) : List Int → Int
  | [] => 0
  | d :: ds => d + B * val B ds
def Digs (B : Int) (ds : List Int) : Prop := ∀ d ∈ ds, 0 ≤ d ∧ d < B
theorem Digs.at {B : Int} {ds : List Int} (h : Digs B ds) (i : Nat) (hi : i < ds.length) : 0 ≤ ds.getD i 0 ∧ ds.getD i 0 < B := h _ (getD_mem ds i hi)
/-- No digit 0 on top. -/
def Neat (ds : List Int) : Prop := ds = [] ∨ ds.getD (ds.length - 1) 0 ≠ 0
/-- ds without the noughts on top is its first n digits. -/
structure Cut (ds : List Int) (n : Nat) : Prop where
  le : n ≤ ds.length
  zero : ∀ i, n ≤ i → i < ds.length → ds.getD i 0 = 0
  top : n = 0 ∨ ds.getD (n - 1) 0 ≠ 0
theorem Digs.take {B : Int} {ds : List Int} (h : Digs B ds) (n : Nat) : Digs B (ds.take n) := fun d hd => h d (List.mem_of_mem_take hd)
theorem Cut.neat {ds : List Int} {n : Nat} (h : Cut ds n) : Neat (ds.take n) := by
  have hl : (ds.take n).length = n := by rw [List.length_take]; have := h.le; omega
  rcases h.top with h0 | h0
  · left; subst h0; rfl
  · rcases Nat.eq_zero_or_pos n with h1 | h1
    · left; subst h1; rfl
    · right; rw [hl, getD_take _ _ _ (by omega)]; exact h0
theorem val_zeros (B : Int) : ∀ ds : List Int, (∀ i, i < ds.length → ds.getD i 0 = 0) → val B ds = 0
  | [], _ => rfl
  | d :: ds, h => by
    have h0 : d = 0 := h 0 (by simp)
    rw [val, h0, val_zeros B ds (fun i hi => h (i + 1) (by simpa using hi))]; simp
theorem val_take (B : Int) : ∀ (ds : List Int) (n : Nat), (∀ i, n ≤ i → i < ds.length → ds.getD i 0 = 0) → val B (ds.take n) = val B ds
  | [], n, _ => by simp
  | d :: ds, 0, h => by rw [val_zeros B (d :: ds) (fun i hi => h i (by omega) hi)]; rfl
  | d :: ds, n + 1, h => by
    rw [List.take_succ_cons, val, val, val_take B ds n (fun i h1 h2 => h (i + 1) (by omega) (by simpa using h2))]
theorem Cut.val {ds : List Int} {n : Nat} (h : Cut ds n) (B : Int) : val B (ds.take n) = val B ds := val_take B ds n h.zero
set_option maxHeartbeats 1000000 in
theorem cut_walk (b o cap : Nat) (ds : List Int) (w : World) (h1 : ds.length ≤ cap) (h2 : cap ≤ maxLen)
    (hc : ∀ i, i < ds.length → w.cell? ⟨b, o + i, none⟩ = some (.int .u32 (ds.getD i 0))) :
    Calls Tryd.prog 71 #[.slice (some ⟨b, o, none⟩) ds.length cap] w fun e w' => ∃ n, Cut ds n ∧ e = .returned (.slice (some ⟨b, o, none⟩) n cap) ∧ w = w' := by
  unfold maxLen at h2
  go_enter Tryd.func71, Tryd.ntmps71
  go_wp2_with fail
  go_loop [3] (fun i => ∃ n : Nat, n ≤ ds.length ∧ i = .int .i64 n ∧ ∀ i, n ≤ i → i < ds.length → ds.getD i 0 = 0) (fun i => (intOf i).toNat)
  case atStart => exact ⟨ds.length, Nat.le_refl _, rfl, fun i h h' => by omega⟩
  case round =>
    obtain ⟨n, hn, rfl, hz⟩ := hrel
    have HZ := Lib.hid hz
    clear hz
    rcases Nat.eq_zero_or_pos n with h | h
    · subst h
      go_wp2
      go_ret
      exact ⟨0, ⟨Nat.zero_le _, HZ.out, .inl rfl⟩, rfl, rfl⟩
    · have hcell := hc (n - 1) (by omega)
      have en : ((n - 1 : Nat) : Int) = (n : Int) - 1 := by omega
      by_cases hd : ds.getD (n - 1) 0 = 0
      · rw [hd] at hcell
        have HD := Lib.hid hd
        clear hd
        go_wp2_with fail
        refine ⟨⟨n - 1, by omega, by go_num, fun i h3 h4 => ?_⟩, by simp [intOf]; omega⟩
        rcases Nat.lt_or_ge i n with h5 | h5
        · rw [show i = n - 1 by omega]; exact HD.out
        · exact HZ.out i h5 h4
      · have HD := Lib.hid hd
        have hb : (ds.getD (n - 1) 0 == 0) = false := by rw [beq_eq_false_iff_ne]; exact hd
        generalize hx : ds.getD (n - 1) 0 = x at hcell hb
        clear hd hx
        go_wp2
        go_ret
        exact ⟨n, ⟨hn, HZ.out, .inr HD.out⟩, rfl, rfl⟩
theorem cut_empty (a : Option Addr) (cap : Nat) (w : World) :
    Calls Tryd.prog 71 #[.slice a 0 cap] w fun e w' => e = .returned (.slice a 0 cap) ∧ w = w' := by
  go_enter Tryd.func71, Tryd.ntmps71
  go_wp2_with fail
  refine wp_loop_rounds 1 ?_
  rw [rounds_succ]
  go_wp2
  go_ret
  exact ⟨rfl, rfl⟩
theorem cut_new {v : Value} {ds : List Int} {w : World} (h : Row .u32 w v ds) :
    Calls Tryd.prog 71 #[v] w fun e w' => ∃ v' n, Cut ds n ∧ e = .returned v' ∧ Row .u32 w v' (ds.take n) ∧ w = w' ∧ v'.ownBlock = v.ownBlock := by
  obtain ⟨a, cap, rfl, h1, h2, h3⟩ := h
  by_cases hn : ds = []
  · subst hn
    refine (cut_empty a cap w).mono ?_
    rintro e w' ⟨rfl, rfl⟩
    exact ⟨_, 0, ⟨Nat.le_refl _, fun i _ h => by simp at h, .inl rfl⟩, rfl, ⟨a, cap, rfl, h1, h2, fun h => absurd rfl h⟩, rfl, rfl⟩
  · obtain ⟨b, o, rfl, hc⟩ := h3 hn
    refine (cut_walk b o cap ds w h1 h2 hc).mono ?_
    rintro e w' ⟨n, hcut, rfl, rfl⟩
    exact ⟨_, n, hcut, rfl, Row.take h1 h2 hcut.le hc, rfl, rfl⟩
theorem cut_any {v : Value} {ds : List Int} {w : World} (h : Row .u32 w v ds) :
    Calls Tryd.prog 71 #[v] w fun e w' => ∃ v' n, Cut ds n ∧ e = .returned v' ∧ Row .u32 w v' (ds.take n) ∧ w = w' :=
  (cut_new h).mono (by rintro e w' ⟨v', n, h1, h2, h3, h4, -⟩; exact ⟨v', n, h1, h2, h3, h4⟩)
set_option maxHeartbeats 1000000 in
theorem trim_walk (b o cap : Nat) (ds : List Int) (w : World) (h1 : ds.length ≤ cap) (h2 : cap ≤ maxLen)
    (hc : ∀ i, i < ds.length → w.cell? ⟨b, o + i, none⟩ = some (.int .u64 (ds.getD i 0))) :
    Calls Tryd.prog 63 #[.slice (some ⟨b, o, none⟩) ds.length cap] w fun e w' => ∃ n, Cut ds n ∧ e = .returned (.slice (some ⟨b, o, none⟩) n cap) ∧ w = w' := by
  unfold maxLen at h2
  go_enter Tryd.func63, Tryd.ntmps63
  go_wp2_with fail
  go_loop [3] (fun i => ∃ n : Nat, n ≤ ds.length ∧ i = .int .i64 n ∧ ∀ i, n ≤ i → i < ds.length → ds.getD i 0 = 0) (fun i => (intOf i).toNat)
  case atStart => exact ⟨ds.length, Nat.le_refl _, rfl, fun i h h' => by omega⟩
  case round =>
    obtain ⟨n, hn, rfl, hz⟩ := hrel
    have HZ := Lib.hid hz
    clear hz
    rcases Nat.eq_zero_or_pos n with h | h
    · subst h
      go_wp2
      go_ret
      exact ⟨0, ⟨Nat.zero_le _, HZ.out, .inl rfl⟩, rfl, rfl⟩
    · have hcell := hc (n - 1) (by omega)
      have en : ((n - 1 : Nat) : Int) = (n : Int) - 1 := by omega
      by_cases hd : ds.getD (n - 1) 0 = 0
      · rw [hd] at hcell
        have HD := Lib.hid hd
        clear hd
        go_wp2_with fail
        refine ⟨⟨n - 1, by omega, by go_num, fun i h3 h4 => ?_⟩, by simp [intOf]; omega⟩
        rcases Nat.lt_or_ge i n with h5 | h5
        · rw [show i = n - 1 by omega]; exact HD.out
        · exact HZ.out i h5 h4
      · have HD := Lib.hid hd
        have hb : (ds.getD (n - 1) 0 == 0) = false := by rw [beq_eq_false_iff_ne]; exact hd
        generalize hx : ds.getD (n - 1) 0 = x at hcell hb
        clear hd hx
        go_wp2
        go_ret
        exact ⟨n, ⟨hn, HZ.out, .inr HD.out⟩, rfl, rfl⟩
theorem trim_empty (a : Option Addr) (cap : Nat) (w : World) :
    Calls Tryd.prog 63 #[.slice a 0 cap] w fun e w' => e = .returned (.slice a 0 cap) ∧ w = w' := by
  go_enter Tryd.func63, Tryd.ntmps63
  go_wp2_with fail
  refine wp_loop_rounds 1 ?_
  rw [rounds_succ]
  go_wp2
  go_ret
  exact ⟨rfl, rfl⟩
theorem trim_new {v : Value} {ds : List Int} {w : World} (h : Row .u64 w v ds) :
    Calls Tryd.prog 63 #[v] w fun e w' => ∃ v' n, Cut ds n ∧ e = .returned v' ∧ Row .u64 w v' (ds.take n) ∧ w = w' ∧ v'.ownBlock = v.ownBlock := by
  obtain ⟨a, cap, rfl, h1, h2, h3⟩ := h
  by_cases hn : ds = []
  · subst hn
    refine (trim_empty a cap w).mono ?_
    rintro e w' ⟨rfl, rfl⟩
    exact ⟨_, 0, ⟨Nat.le_refl _, fun i _ h => by simp at h, .inl rfl⟩, rfl, ⟨a, cap, rfl, h1, h2, fun h => absurd rfl h⟩, rfl, rfl⟩
  · obtain ⟨b, o, rfl, hc⟩ := h3 hn
    refine (trim_walk b o cap ds w h1 h2 hc).mono ?_
    rintro e w' ⟨n, hcut, rfl, rfl⟩
    exact ⟨_, n, hcut, rfl, Row.take h1 h2 hcut.le hc, rfl, rfl⟩
end Go.Proofs.YtgokenbojppnhaaDoor
namespace Go.Proofs.YtgokenbojppnhaaDoor
open Go.RowKit
theorem info32 : (Tryd.prog.info? 107).map (fun i => (i.zero, i.size, i.bytes)) = some (some (.int .u32 0), 1, 4) := by kernel_rfl
def B32 : Int := 4294967296
def B64 : Int := 18446744073709551616
/-- The digits of 32 bits of digits of 64. -/
def hv : List Int → List Int
  | [] => []
  | d :: ds => d % 4294967296 :: d / 4294967296 :: hv ds
theorem hv_length : ∀ ds : List Int, (hv ds).length = 2 * ds.length
  | [] => rfl
  | d :: ds => by simp only [hv, List.length_cons, hv_length ds]; omega
theorem hv_append : ∀ xs ys : List Int, hv (xs ++ ys) = hv xs ++ hv ys
  | [], ys => rfl
  | x :: xs, ys => by simp only [hv, List.cons_append, hv_append xs ys]
theorem hv_val : ∀ ds : List Int, val B32 (hv ds) = val B64 ds
  | [] => rfl
  | d :: ds => by
    have := hv_val ds
    simp only [hv, val]
    rw [this]
    unfold B32 B64
    omega
theorem hv_digs : ∀ ds : List Int, Digs B64 ds → Digs B32 (hv ds)
  | [], _ => fun d hd => by cases hd
  | d :: ds, h => by
    have h0 := h d (by simp)
    have h1 := hv_digs ds (fun x hx => h x (by simp [hx]))
    unfold B64 at h0
    intro x hx
    simp only [hv, List.mem_cons] at hx
    unfold B32
    rcases hx with rfl | rfl | hx
    · omega
    · omega
    · exact h1 x hx
structure HalfAt (w : World) (v : Value) (x : Int) (L : Nat) : Prop where
  is : ∃ ds, Row .u32 w v ds ∧ Digs B32 ds ∧ Neat ds ∧ val B32 ds = x ∧ ds.length ≤ L
set_option maxHeartbeats 1000000 in
theorem halves_walk (b o cap : Nat) (ds : List Int) (w : World) (hl : ds.length ≤ 1000000) (hb : b < w.heap.size) (hD : Digs B64 ds)
    (hc : ∀ i, i < ds.length → w.cell? ⟨b, o + i, none⟩ = some (.int .u64 (ds.getD i 0))) :
    Calls Tryd.prog 61 #[.slice (some ⟨b, o, none⟩) ds.length cap] w fun e w' => ∃ v, e = .returned v ∧ Ext w w' ∧ HalfAt w' v (val B64 ds) (2 * ds.length) := by
  obtain ⟨i0, hi0, hz0, hz1, hz2⟩ := info_parts info32
  go_enter Tryd.func61, Tryd.ntmps61
  go_wp2_with fail
  go_loopw [3, 4] (fun v i wr => ∃ k : Nat, k ≤ ds.length ∧ i = .int .i64 k ∧ wr.ownsRow w.heap.size 107 1 v (2 * k) ((hv (ds.take k)).map (Value.int .u32)) ∧ Ext w wr) (fun _ i _ => ds.length - (intOf i).toNat)
  case atStart => exact ⟨0, Nat.zero_le _, rfl, World.ownsRow_nil _ _ _ _, Ext.refl _⟩
  case round =>
    obtain ⟨k, hk, rfl, hown, hext⟩ := hrel
    rcases Nat.lt_or_ge k ds.length with hlt | hge
    · have hcell := hext.cell (hc k hlt)
      obtain ⟨d0, d1⟩ := hD.at k hlt
      unfold B64 at d1
      have hrow := hown.lt
      have hne : some b ≠ Value.ownBlock _ := fun e => by have := hrow b e.symm; omega
      have hbl : b < wr.heap.size := Nat.lt_of_lt_of_le hb hext.size
      have hn2 : 2 * k + 2 ≤ maxLen := by unfold maxLen; omega
      have hstep : hv (ds.take (k + 1)) = hv (ds.take k) ++ [IntKind.u32.wrap (ds.getD k 0), IntKind.u32.wrap (ds.getD k 0 / 4294967296)] := by
        have e : IntKind.u32.wrap (ds.getD k 0 / 4294967296) = ds.getD k 0 / 4294967296 := by rw [IntKind.wrap_u32]; omega
        rw [take_succ_getD ds k hlt, hv_append, e, IntKind.wrap_u32]; rfl
      have HS := Lib.hid hstep
      clear hstep
      generalize ds.getD k 0 = d at hcell d0 d1 HS
      go_wp2_with fail
      go_region_held3 (fun w' => w'.cell? ⟨b, o + k, none⟩ = some (.int .u64 d)) (first | (simp [go_sem, *]; done) | (rw [hgrow.cell_far _ (by simp; omega) hne]; simp [go_sem, *]))
        ((refine step_append_lies _ (by rfl) _ _ _ (by rfl) w.heap.size 107 i0 _ 1 4 Tryd.underlying104 hi0 hz0 hz1 hz2 rfl (by omega) _ (2 * k) _ (by rfl) ((hown.alloc _).drew) ⟨wr.heap.size, 0, none⟩ 2 2 [.int .u32 (IntKind.u32.wrap d), .int .u32 (IntKind.u32.wrap (d / 4294967296))] (by rfl) (by rfl) (World.news_of_block (cs := #[.int .u32 (IntKind.u32.wrap d), .int .u32 (IntKind.u32.wrap (d / 4294967296))]) (t := 107) (fr := (0, 0)) (heap_alloc_new wr _)) (by simp [Value.oneCell']) (by omega) hn2 (by omega) (by simp; have := hext.size; omega) (wr.heap.size + 1) (by simp) ?_; intro gg cap' w1 hown1 hgrow hat hlt1))
      have X : Ext w w1 := Ext.grown (hext.alloc _).drew hgrow (fun r hr => (hrow r hr).1)
      clear hown hgrow hcell hne hrow
      go_wp2_with fail
      have hown2 : w1.ownsRow w.heap.size 107 1 (.slice (some ⟨gg, 0, none⟩) (2 * k + 2) cap') (2 * (k + 1)) ((hv (ds.take (k + 1))).map (Value.int .u32)) := by
        rw [HS.out, List.map_append]; exact hown1
      exact ⟨⟨k + 1, by omega, by go_num, hown2, X⟩, by simp [intOf]; omega⟩
    · obtain rfl : k = ds.length := by omega
      rw [List.take_length] at hown
      have HC := Lib.hid (cut_any (Row.of_owns hown).1)
      clear hown
      go_wp2_with fail
      refine HC.out.mono ?_
      rintro e w' ⟨v', n, hcut, rfl, hrow, rfl⟩
      have hn : n ≤ 2 * ds.length := by have := hcut.le; rw [hv_length] at this; exact this
      have R := Lib.hid (⟨⟨(hv ds).take n, hrow, (hv_digs ds hD).take n, hcut.neat, by rw [hcut.val, hv_val], by rw [List.length_take]; omega⟩⟩ : HalfAt wr v' (val B64 ds) (2 * ds.length))
      clear hcut hrow hn
      go_wp2
      go_ret
      exact ⟨_, rfl, hext, R.out⟩
/-- A number of the reference, as a world holds it, of at most L digits. -/
structure NatAt (w : World) (v : Value) (x : Int) (L : Nat) : Prop where
  is : ∃ ds, Row .u64 w v ds ∧ Digs B64 ds ∧ Neat ds ∧ val B64 ds = x ∧ ds.length ≤ L
theorem NatAt.ext {w w' : World} {v : Value} {x : Int} {L : Nat} (h : NatAt w v x L) (e : Ext w w') : NatAt w' v x L := by
  obtain ⟨ds, h1, h2⟩ := h.is; exact ⟨⟨ds, h1.ext e, h2⟩⟩
theorem halves_empty (a : Option Addr) (cap : Nat) (w : World) :
    Calls Tryd.prog 61 #[.slice a 0 cap] w fun e w' => e = .returned (.slice none 0 0) ∧ w = w' := by
  have HC := Lib.hid (fun v => cut_empty none 0 v)
  go_enter Tryd.func61, Tryd.ntmps61
  go_wp2_with fail
  refine wp_loop_rounds 1 ?_
  rw [rounds_succ]
  go_wp2_with fail; refine (HC.out _).mono ?_; rintro e w' ⟨rfl, rfl⟩
  go_wp2
  go_ret
  exact ⟨rfl, rfl⟩
theorem halves_any {v : Value} {x : Int} {L : Nat} {w : World} (h : NatAt w v x L) (hL : L ≤ 1000000) :
    Calls Tryd.prog 61 #[v] w fun e w' => ∃ v', e = .returned v' ∧ Ext w w' ∧ HalfAt w' v' x (2 * L) := by
  obtain ⟨ds, ⟨a, cap, rfl, h1, h2, h3⟩, hD, hN, rfl, hlen⟩ := h.is
  by_cases hn : ds = []
  · subst hn
    refine (halves_empty a cap w).mono ?_
    rintro e w' ⟨rfl, rfl⟩
    exact ⟨_, rfl, Ext.refl _, ⟨⟨[], Row.nil _ _, (fun d hd => absurd hd (by simp)), Or.inl rfl, rfl, Nat.zero_le _⟩⟩⟩
  · obtain ⟨b, o, rfl, hc⟩ := h3 hn
    have hpos : 0 < ds.length := List.length_pos_iff.2 hn
    have hb := cell_lt (hc 0 hpos)
    refine (halves_walk b o cap ds w (by omega) hb hD hc).mono ?_
    rintro e w' ⟨v', rfl, x, h⟩
    obtain ⟨es, k1, k2, k3, k4, k5⟩ := h.is
    exact ⟨v', rfl, x, ⟨⟨es, k1, k2, k3, k4, by omega⟩⟩⟩
end Go.Proofs.YtgokenbojppnhaaDoor
namespace Go.Proofs.YtgokenbojppnhaaDoor
open Go.RowKit
theorem news_1 (w : World) (v : Value) (t : TypeId) : ∀ j u, [v][j]? = some u → (w.alloc (.cells #[v] t)).cell? ((⟨w.heap.size, 0, none⟩ : Addr).add j) = some u :=
  World.news_of_block (cs := #[v]) (t := t) (fr := (0, 0)) (heap_alloc_new w _)
theorem one_1 (k : IntKind) (x : Int) : ∀ u ∈ [Value.int k x], u.oneCell' = true := by
  intro u hu; simp at hu; subst hu; rfl
end Go.Proofs.YtgokenbojppnhaaDoor
namespace Go.Proofs.YtgokenbojppnhaaDoor
open Go.RowKit
theorem Row.cellAt {k : IntKind} {w : World} {a : Option Addr} {n cap : Nat} {ds : List Int} (h : Row k w (.slice a n cap) ds) (i : Nat) (hi : i < ds.length) :
    ∃ b o, a = some ⟨b, o, none⟩ ∧ w.cell? ⟨b, o + i, none⟩ = some (.int k (ds.getD i 0)) := by
  obtain ⟨a', cap', e, h1, h2, h3⟩ := h
  simp only [Value.slice.injEq] at e
  obtain ⟨rfl, -, -⟩ := e
  obtain ⟨b, o, rfl, hc⟩ := h3 (by intro e; subst e; simp at hi)
  exact ⟨b, o, rfl, hc i hi⟩
theorem val_snoc (B d : Int) : ∀ xs : List Int, val B (xs ++ [d]) = val B xs + d * B ^ xs.length
  | [] => by simp [val]
  | x :: xs => by
    simp only [List.cons_append, val, val_snoc B d xs, List.length_cons]
    rw [Int.mul_add, Int.pow_succ, Int.add_assoc, ← Int.mul_assoc B d, Int.mul_comm B d, Int.mul_assoc d B, Int.mul_comm B (B ^ xs.length)]
theorem val_take_succ (B : Int) (ds : List Int) (k : Nat) : val B (ds.take (k + 1)) = val B (ds.take k) + ds.getD k 0 * B ^ k := by
  rcases Nat.lt_or_ge k ds.length with h | h
  · rw [take_succ_getD ds k h, val_snoc, List.length_take, Nat.min_eq_left (by omega)]
  · have e : ds.getD k 0 = 0 := by rw [List.getD_eq_getElem?_getD, List.getElem?_eq_none h]; rfl
    rw [List.take_of_length_le h, List.take_of_length_le (by omega), e]; simp
theorem getD_bd {ds : List Int} (h : Digs B32 ds) (k : Nat) : 0 ≤ ds.getD k 0 ∧ ds.getD k 0 < 4294967296 := by
  rcases Nat.lt_or_ge k ds.length with h' | h'
  · exact h.at k h'
  · rw [List.getD_eq_getElem?_getD, List.getElem?_eq_none h']; exact ⟨Int.le_refl 0, by decide⟩
end Go.Proofs.YtgokenbojppnhaaDoor
namespace Go.Proofs.YtgokenbojppnhaaDoor
open Go.RowKit
theorem val_bd {B : Int} (hB : 0 < B) : ∀ ds : List Int, Digs B ds → 0 ≤ val B ds ∧ val B ds < B ^ ds.length
  | [], _ => by simp [val]
  | d :: ds, h => by
    obtain ⟨h1, h2⟩ := h d (by simp)
    obtain ⟨h3, h4⟩ := val_bd hB ds (fun x hx => h x (by simp [hx]))
    simp only [val, List.length_cons, Int.pow_succ]
    have h5 := Int.mul_nonneg (Int.le_of_lt hB) h3
    have h6 := Int.mul_le_mul_of_nonneg_left (show val B ds + 1 ≤ B ^ ds.length by omega) (Int.le_of_lt hB)
    rw [Int.mul_add, Int.mul_one] at h6
    rw [Int.mul_comm _ B]
    omega
theorem val_top {B : Int} (hB : 0 < B) {ds : List Int} (h : Digs B ds) (hn : Neat ds) (h0 : ds ≠ []) : B ^ (ds.length - 1) ≤ val B ds := by
  rcases hn with hn | hn
  · exact absurd hn h0
  · have hl : 0 < ds.length := List.length_pos_iff.2 h0
    have e := val_take_succ B ds (ds.length - 1)
    rw [List.take_of_length_le (by omega)] at e
    have h1 := (val_bd hB (ds.take (ds.length - 1)) (h.take _)).1
    have h2 := h.at (ds.length - 1) (by omega)
    have h3 : (0 : Int) < B ^ (ds.length - 1) := Int.pow_pos hB
    have h4 := Int.mul_le_mul_of_nonneg_right (show 1 ≤ ds.getD (ds.length - 1) 0 by omega) (Int.le_of_lt h3)
    rw [Int.one_mul] at h4
    omega
end Go.Proofs.YtgokenbojppnhaaDoor
namespace Go.Proofs.YtgokenbojppnhaaDoor
open Go.RowKit
theorem Digs.set {B d : Int} {ds : List Int} (h : Digs B ds) (i : Nat) (h0 : 0 ≤ d) (h1 : d < B) : Digs B (ds.set i d) := by
  intro x hx
  rcases List.mem_or_eq_of_mem_set hx with hx | rfl
  · exact h x hx
  · exact ⟨h0, h1⟩
theorem getD_set_same (ds : List Int) (i : Nat) (d : Int) (h : i < ds.length) : (ds.set i d).getD i 0 = d := by
  simp [List.getD, h]
theorem own_set {w : World} {base : Nat} {e : TypeId} {g n cap : Nat} {zs : List Int} {k : IntKind} (h : w.ownsRow base e 1 (.slice (some ⟨g, 0, none⟩) n cap) n (zs.map (Value.int k))) (j : Nat) (d : Int) :
    (w.setCell ⟨g, j, none⟩ (.int k d)).ownsRow base e 1 (.slice (some ⟨g, 0, none⟩) n cap) n ((zs.set j d).map (Value.int k)) := by
  rw [List.map_set]; exact (h.stored j _).1
theorem owns_at {w : World} {base : Nat} {e : TypeId} {g n cap : Nat} {zs : List Int} {k : IntKind} (h : w.ownsRow base e 1 (.slice (some ⟨g, 0, none⟩) n cap) n (zs.map (Value.int k))) (j : Nat) (hj : j < n) :
    w.cell? ⟨g, j, none⟩ = some (.int k (zs.getD j 0)) := by
  have hl : zs.length = n := by simpa using h.1
  rw [h.cellAt j (by omega), List.getElem?_map, List.getD_eq_getElem?_getD, List.getElem?_eq_getElem (by omega)]
  rfl
end Go.Proofs.YtgokenbojppnhaaDoor
namespace Go.Proofs.YtgokenbojppnhaaDoor
open Go.RowKit
theorem NatAt.of_cut {w : World} {v : Value} {ds : List Int} {n L : Nat} (hr : Row .u64 w v (ds.take n)) (hc : Cut ds n) (hd : Digs B64 ds) (hl : ds.length ≤ L) : NatAt w v (val B64 ds) L :=
  ⟨⟨ds.take n, hr, hd.take n, hc.neat, hc.val _, by rw [List.length_take]; omega⟩⟩
theorem NOf_new (n : Int) (w : World) (h0 : 0 ≤ n) (h1 : n < 18446744073709551616) :
    Calls Tryd.prog 52 #[.int .u64 n] w fun e w' => ∃ v, e = .returned v ∧ Ext w w' ∧ NatAt w' v n 1 ∧ New w v := by
  have hr : Row .u64 (w.alloc (.cells #[.int .u64 n] 95)) (.slice (some ⟨w.heap.size, 0, none⟩) 1 1) [n] := by
    refine ⟨_, 1, rfl, Nat.le_refl _, by unfold maxLen; omega, fun _ => ⟨_, 0, rfl, fun i hi => ?_⟩⟩
    obtain rfl : i = 0 := by simpa using hi
    simp
  have HC := Lib.hid (trim_new hr)
  clear hr
  go_enter Tryd.func52, Tryd.ntmps52
  go_wp2_with fail
  refine HC.out.mono ?_
  rintro e w' ⟨v3, n3, hcut, rfl, hrow3, rfl, hob⟩
  have HN : Hid (New w v3) := Lib.hid (fun b hb => by rw [hob] at hb; simp [Value.ownBlock] at hb; omega)
  have h := NatAt.of_cut hrow3 hcut (L := 1) (fun d hd => by simp at hd; subst hd; exact ⟨h0, h1⟩) (by simp)
  rw [show val B64 [n] = n by simp [val]] at h
  have H := Lib.hid h
  clear h hrow3 hcut hob
  go_wp2
  go_ret
  exact ⟨_, rfl, (by repeat (first | with_reducible exact Ext.refl _ | with_reducible apply Ext.drew | with_reducible apply Ext.drewN | with_reducible apply Ext.alloc | ((with_reducible refine Ext.setCell ?_ ?_ _); rotate_left; focus (first | (simp; done) | (simp; omega) | omega)) | with_reducible refine Ext.tr ?_ x1 | with_reducible refine Ext.tr ?_ hx | with_reducible refine Ext.tr ?_ hext | with_reducible assumption)), H.out, HN.out⟩
end Go.Proofs.YtgokenbojppnhaaDoor
namespace Go.Proofs.YtgokenbojppnhaaDoor
open Go.RowKit
end Go.Proofs.YtgokenbojppnhaaDoor
namespace Go.Proofs.YtgokenbojppnhaaDoor
open Go.RowKit
end Go.Proofs.YtgokenbojppnhaaDoor
namespace Go.Proofs.YtgokenbojppnhaaDoor
open Go.RowKit
end Go.Proofs.YtgokenbojppnhaaDoor
namespace Go.Proofs.YtgokenbojppnhaaDoor
open Go.RowKit
structure ShRel (xs : List Int) (d : Int) (k : Nat) (r : Int) (zs : List Int) : Prop where
  len : zs.length = xs.length
  digs : Digs B32 zs
  r0 : 0 ≤ r
  r1 : r < d
  is : val B32 (xs.drop k) = d * val B32 (zs.drop k) + r
theorem drop_cons_getD (ds : List Int) (j : Nat) (h : j < ds.length) : ds.drop j = ds.getD j 0 :: ds.drop (j + 1) := by
  rw [List.drop_eq_getElem_cons h, List.getD_eq_getElem?_getD, List.getElem?_eq_getElem h]; rfl
theorem ShRel.step {xs zs : List Int} {d r : Int} {k j : Nat} (h : ShRel xs d k r zs) (hj : j + 1 = k) (hk : k ≤ xs.length) (hx : Digs B32 xs) (hd : 0 < d) (hd1 : d ≤ 4294967296) :
    ShRel xs d j ((r * 4294967296 + xs.getD j 0) % d) (zs.set j ((r * 4294967296 + xs.getD j 0) / d)) ∧ 0 ≤ (r * 4294967296 + xs.getD j 0) / d ∧ (r * 4294967296 + xs.getD j 0) / d < 4294967296 := by
  obtain ⟨x0, x1⟩ := getD_bd hx j
  have r0 := h.r0
  have r1 := h.r1
  have b0 := Int.ediv_nonneg (show 0 ≤ r * 4294967296 + xs.getD j 0 by omega) (Int.le_of_lt hd)
  have b1 : (r * 4294967296 + xs.getD j 0) / d < 4294967296 := by
    apply Int.ediv_lt_of_lt_mul hd
    have := Int.mul_le_mul_of_nonneg_right (show r + 1 ≤ d by omega) (show (0 : Int) ≤ 4294967296 by omega)
    rw [Int.mul_comm 4294967296]; omega
  refine ⟨⟨by simp [h.len], h.digs.set _ b0 (by unfold B32; omega), Int.emod_nonneg _ (by omega), Int.emod_lt_of_pos _ hd, ?_⟩, b0, b1⟩
  have e1 : (zs.set j ((r * 4294967296 + xs.getD j 0) / d)).drop j = ((r * 4294967296 + xs.getD j 0) / d) :: zs.drop (j + 1) := by
    rw [drop_cons_getD _ j (by rw [List.length_set, h.len]; omega), getD_set_same _ _ _ (by rw [h.len]; omega), List.drop_set_of_lt (by omega)]
  have e := h.is
  rw [e1, drop_cons_getD xs j (by omega), hj]
  simp only [val]
  rw [e]
  have e2 := Int.mul_ediv_add_emod (r * 4294967296 + xs.getD j 0) d
  generalize (r * 4294967296 + xs.getD j 0) / d = q at *
  generalize (r * 4294967296 + xs.getD j 0) % d = m at *
  generalize xs.getD j 0 = x at *
  rw [Int.mul_add, Int.mul_add d q, Int.mul_left_comm]
  unfold B32
  omega
theorem or_lo (a b : Int) (a0 : 0 ≤ a) (a1 : a < 4294967296) (b0 : 0 ≤ b) (b1 : b < 4294967296) : bits .or .u64 (a * 4294967296) b = a * 4294967296 + b :=
  or_disj (a * 4294967296) b 32 (by omega) b0 (by omega) (by omega) (by omega) (by omega)
end Go.Proofs.YtgokenbojppnhaaDoor
