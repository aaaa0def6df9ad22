/- Rows of digits, and their numbers. ref90: halves. ref90: whole. -/
import Derived.Test.YtjmecongccjcgaaSlice
import Derived.Test.YtjmecongccjcgaaGrown
import Derived.Test.YtjmecongccjcgaaLeft
import Derived.WalkKit
import Derived.Laws.AppendOwn
import Derived.WalkSpells
import Derived.OwnWalk
import Derived.Laws.OwnMore
import Derived.Deep.RegionHeld3
import Derived.Deep.AppendLies
namespace Go.Proofs.Ytjmecongccjcgaa
open Go.RowKit
/-- The number of a list of digits, the lowest first. -/
def val (B : Int) : List Int → Int
  | [] => 0
  | d :: ds => d + B * val B ds
def Digs (B : Int) (ds : List Int) : Prop := ∀ d ∈ ds, 0 ≤ d ∧ d < B
theorem Digs.at {B : Int} {ds : List Int} (h : Digs B ds) (i : Nat) (hi : i < ds.length) : 0 ≤ ds.getD i 0 ∧ ds.getD i 0 < B := h _ (getD_mem ds i hi)
/-- No digit 0 on top. -/
def Neat (ds : List Int) : Prop := ds = [] ∨ ds.getD (ds.length - 1) 0 ≠ 0
/-- ds without the noughts on top is its first n digits. -/
structure Cut (ds : List Int) (n : Nat) : Prop where
  le : n ≤ ds.length
  zero : ∀ i, n ≤ i → i < ds.length → ds.getD i 0 = 0
  top : n = 0 ∨ ds.getD (n - 1) 0 ≠ 0
theorem Digs.take {B : Int} {ds : List Int} (h : Digs B ds) (n : Nat) : Digs B (ds.take n) := fun d hd => h d (List.mem_of_mem_take hd)
theorem Cut.neat {ds : List Int} {n : Nat} (h : Cut ds n) : Neat (ds.take n) := by
  have hl : (ds.take n).length = n := by rw [List.length_take]; have := h.le; omega
  rcases h.top with h0 | h0
  · left; subst h0; rfl
  · rcases Nat.eq_zero_or_pos n with h1 | h1
    · left; subst h1; rfl
    · right; rw [hl, getD_take _ _ _ (by omega)]; exact h0
theorem val_zeros (B : Int) : ∀ ds : List Int, (∀ i, i < ds.length → ds.getD i 0 = 0) → val B ds = 0
  | [], _ => rfl
  | d :: ds, h => by
    have h0 : d = 0 := h 0 (by simp)
    rw [val, h0, val_zeros B ds (fun i hi => h (i + 1) (by simpa using hi))]; simp
theorem val_take (B : Int) : ∀ (ds : List Int) (n : Nat), (∀ i, n ≤ i → i < ds.length → ds.getD i 0 = 0) → val B (ds.take n) = val B ds
  | [], n, _ => by simp
  | d :: ds, 0, h => by rw [val_zeros B (d :: ds) (fun i hi => h i (by omega) hi)]; rfl
  | d :: ds, n + 1, h => by
    rw [List.take_succ_cons, val, val, val_take B ds n (fun i h1 h2 => h (i + 1) (by omega) (by simpa using h2))]
theorem Cut.val {ds : List Int} {n : Nat} (h : Cut ds n) (B : Int) : val B (ds.take n) = val B ds := val_take B ds n h.zero
set_option maxHeartbeats 1000000 in
theorem cut_walk (b o cap : Nat) (ds : List Int) (w : World) (h1 : ds.length ≤ cap) (h2 : cap ≤ maxLen)
    (hc : ∀ i, i < ds.length → w.cell? ⟨b, o + i, none⟩ = some (.int .u32 (ds.getD i 0))) :
    Calls Try.prog 92 #[.slice (some ⟨b, o, none⟩) ds.length cap] w fun e w' => ∃ n, Cut ds n ∧ e = .returned (.slice (some ⟨b, o, none⟩) n cap) ∧ w = w' := by
  unfold maxLen at h2
  go_enter Try.func92, Try.ntmps92
  go_wp2_with fail
  go_loop [3] (fun i => ∃ n : Nat, n ≤ ds.length ∧ i = .int .i64 n ∧ ∀ i, n ≤ i → i < ds.length → ds.getD i 0 = 0) (fun i => (intOf i).toNat)
  case atStart => exact ⟨ds.length, Nat.le_refl _, rfl, fun i h h' => by omega⟩
  case round =>
    obtain ⟨n, hn, rfl, hz⟩ := hrel
    have HZ := Lib.hid hz
    clear hz
    rcases Nat.eq_zero_or_pos n with h | h
    · subst h
      go_wp2
      go_ret
      exact ⟨0, ⟨Nat.zero_le _, HZ.out, .inl rfl⟩, rfl, rfl⟩
    · have hcell := hc (n - 1) (by omega)
      have en : ((n - 1 : Nat) : Int) = (n : Int) - 1 := by omega
      by_cases hd : ds.getD (n - 1) 0 = 0
      · rw [hd] at hcell
        have HD := Lib.hid hd
        clear hd
        go_wp2_with fail
        refine ⟨⟨n - 1, by omega, by go_num, fun i h3 h4 => ?_⟩, by simp [intOf]; omega⟩
        rcases Nat.lt_or_ge i n with h5 | h5
        · rw [show i = n - 1 by omega]; exact HD.out
        · exact HZ.out i h5 h4
      · have HD := Lib.hid hd
        have hb : (ds.getD (n - 1) 0 == 0) = false := by rw [beq_eq_false_iff_ne]; exact hd
        generalize hx : ds.getD (n - 1) 0 = x at hcell hb
        clear hd hx
        go_wp2
        go_ret
        exact ⟨n, ⟨hn, HZ.out, .inr HD.out⟩, rfl, rfl⟩
theorem cut_empty (a : Option Addr) (cap : Nat) (w : World) :
    Calls Try.prog 92 #[.slice a 0 cap] w fun e w' => e = .returned (.slice a 0 cap) ∧ w = w' := by
  go_enter Try.func92, Try.ntmps92
  go_wp2_with fail
  refine wp_loop_rounds 1 ?_
  rw [rounds_succ]
  go_wp2
  go_ret
  exact ⟨rfl, rfl⟩
theorem cut_new {v : Value} {ds : List Int} {w : World} (h : Row .u32 w v ds) :
    Calls Try.prog 92 #[v] w fun e w' => ∃ v' n, Cut ds n ∧ e = .returned v' ∧ Row .u32 w v' (ds.take n) ∧ w = w' ∧ v'.ownBlock = v.ownBlock := by
  obtain ⟨a, cap, rfl, h1, h2, h3⟩ := h
  by_cases hn : ds = []
  · subst hn
    refine (cut_empty a cap w).mono ?_
    rintro e w' ⟨rfl, rfl⟩
    exact ⟨_, 0, ⟨Nat.le_refl _, fun i _ h => by simp at h, .inl rfl⟩, rfl, ⟨a, cap, rfl, h1, h2, fun h => absurd rfl h⟩, rfl, rfl⟩
  · obtain ⟨b, o, rfl, hc⟩ := h3 hn
    refine (cut_walk b o cap ds w h1 h2 hc).mono ?_
    rintro e w' ⟨n, hcut, rfl, rfl⟩
    exact ⟨_, n, hcut, rfl, Row.take h1 h2 hcut.le hc, rfl, rfl⟩
theorem cut_any {v : Value} {ds : List Int} {w : World} (h : Row .u32 w v ds) :
    Calls Try.prog 92 #[v] w fun e w' => ∃ v' n, Cut ds n ∧ e = .returned v' ∧ Row .u32 w v' (ds.take n) ∧ w = w' :=
  (cut_new h).mono (by rintro e w' ⟨v', n, h1, h2, h3, h4, -⟩; exact ⟨v', n, h1, h2, h3, h4⟩)
set_option maxHeartbeats 1000000 in
theorem trim_walk (b o cap : Nat) (ds : List Int) (w : World) (h1 : ds.length ≤ cap) (h2 : cap ≤ maxLen)
    (hc : ∀ i, i < ds.length → w.cell? ⟨b, o + i, none⟩ = some (.int .u64 (ds.getD i 0))) :
    Calls Try.prog 89 #[.slice (some ⟨b, o, none⟩) ds.length cap] w fun e w' => ∃ n, Cut ds n ∧ e = .returned (.slice (some ⟨b, o, none⟩) n cap) ∧ w = w' := by
  unfold maxLen at h2
  go_enter Try.func89, Try.ntmps89
  go_wp2_with fail
  go_loop [3] (fun i => ∃ n : Nat, n ≤ ds.length ∧ i = .int .i64 n ∧ ∀ i, n ≤ i → i < ds.length → ds.getD i 0 = 0) (fun i => (intOf i).toNat)
  case atStart => exact ⟨ds.length, Nat.le_refl _, rfl, fun i h h' => by omega⟩
  case round =>
    obtain ⟨n, hn, rfl, hz⟩ := hrel
    have HZ := Lib.hid hz
    clear hz
    rcases Nat.eq_zero_or_pos n with h | h
    · subst h
      go_wp2
      go_ret
      exact ⟨0, ⟨Nat.zero_le _, HZ.out, .inl rfl⟩, rfl, rfl⟩
    · have hcell := hc (n - 1) (by omega)
      have en : ((n - 1 : Nat) : Int) = (n : Int) - 1 := by omega
      by_cases hd : ds.getD (n - 1) 0 = 0
      · rw [hd] at hcell
        have HD := Lib.hid hd
        clear hd
        go_wp2_with fail
        refine ⟨⟨n - 1, by omega, by go_num, fun i h3 h4 => ?_⟩, by simp [intOf]; omega⟩
        rcases Nat.lt_or_ge i n with h5 | h5
        · rw [show i = n - 1 by omega]; exact HD.out
        · exact HZ.out i h5 h4
      · have HD := Lib.hid hd
        have hb : (ds.getD (n - 1) 0 == 0) = false := by rw [beq_eq_false_iff_ne]; exact hd
        generalize hx : ds.getD (n - 1) 0 = x at hcell hb
        clear hd hx
        go_wp2
        go_ret
        exact ⟨n, ⟨hn, HZ.out, .inr HD.out⟩, rfl, rfl⟩
theorem trim_empty (a : Option Addr) (cap : Nat) (w : World) :
    Calls Try.prog 89 #[.slice a 0 cap] w fun e w' => e = .returned (.slice a 0 cap) ∧ w = w' := by
  go_enter Try.func89, Try.ntmps89
  go_wp2_with fail
  refine wp_loop_rounds 1 ?_
  rw [rounds_succ]
  go_wp2
  go_ret
  exact ⟨rfl, rfl⟩
theorem trim_new {v : Value} {ds : List Int} {w : World} (h : Row .u64 w v ds) :
    Calls Try.prog 89 #[v] w fun e w' => ∃ v' n, Cut ds n ∧ e = .returned v' ∧ Row .u64 w v' (ds.take n) ∧ w = w' ∧ v'.ownBlock = v.ownBlock := by
  obtain ⟨a, cap, rfl, h1, h2, h3⟩ := h
  by_cases hn : ds = []
  · subst hn
    refine (trim_empty a cap w).mono ?_
    rintro e w' ⟨rfl, rfl⟩
    exact ⟨_, 0, ⟨Nat.le_refl _, fun i _ h => by simp at h, .inl rfl⟩, rfl, ⟨a, cap, rfl, h1, h2, fun h => absurd rfl h⟩, rfl, rfl⟩
  · obtain ⟨b, o, rfl, hc⟩ := h3 hn
    refine (trim_walk b o cap ds w h1 h2 hc).mono ?_
    rintro e w' ⟨n, hcut, rfl, rfl⟩
    exact ⟨_, n, hcut, rfl, Row.take h1 h2 hcut.le hc, rfl, rfl⟩
theorem trim_any {v : Value} {ds : List Int} {w : World} (h : Row .u64 w v ds) :
    Calls Try.prog 89 #[v] w fun e w' => ∃ v' n, Cut ds n ∧ e = .returned v' ∧ Row .u64 w v' (ds.take n) ∧ w = w' :=
  (trim_new h).mono (by rintro e w' ⟨v', n, h1, h2, h3, h4, -⟩; exact ⟨v', n, h1, h2, h3, h4⟩)
end Go.Proofs.Ytjmecongccjcgaa
namespace Go.Proofs.Ytjmecongccjcgaa
open Go.RowKit
theorem info32 : (Try.prog.info? 131).map (fun i => (i.zero, i.size, i.bytes)) = some (some (.int .u32 0), 1, 4) := by kernel_rfl
theorem info64 : (Try.prog.info? 109).map (fun i => (i.zero, i.size, i.bytes)) = some (some (.int .u64 0), 1, 8) := by kernel_rfl
def B32 : Int := 4294967296
def B64 : Int := 18446744073709551616
/-- The digits of 32 bits of digits of 64. -/
def hv : List Int → List Int
  | [] => []
  | d :: ds => d % 4294967296 :: d / 4294967296 :: hv ds
theorem hv_length : ∀ ds : List Int, (hv ds).length = 2 * ds.length
  | [] => rfl
  | d :: ds => by simp only [hv, List.length_cons, hv_length ds]; omega
theorem hv_append : ∀ xs ys : List Int, hv (xs ++ ys) = hv xs ++ hv ys
  | [], ys => rfl
  | x :: xs, ys => by simp only [hv, List.cons_append, hv_append xs ys]
theorem hv_val : ∀ ds : List Int, val B32 (hv ds) = val B64 ds
  | [] => rfl
  | d :: ds => by
    have := hv_val ds
    simp only [hv, val]
    rw [this]
    unfold B32 B64
    omega
theorem hv_digs : ∀ ds : List Int, Digs B64 ds → Digs B32 (hv ds)
  | [], _ => fun d hd => by cases hd
  | d :: ds, h => by
    have h0 := h d (by simp)
    have h1 := hv_digs ds (fun x hx => h x (by simp [hx]))
    unfold B64 at h0
    intro x hx
    simp only [hv, List.mem_cons] at hx
    unfold B32
    rcases hx with rfl | rfl | hx
    · omega
    · omega
    · exact h1 x hx
structure HalfAt (w : World) (v : Value) (x : Int) (L : Nat) : Prop where
  is : ∃ ds, Row .u32 w v ds ∧ Digs B32 ds ∧ Neat ds ∧ val B32 ds = x ∧ ds.length ≤ L
set_option maxHeartbeats 1000000 in
theorem halves_walk (b o cap : Nat) (ds : List Int) (w : World) (hl : ds.length ≤ 1000000) (hb : b < w.heap.size) (hD : Digs B64 ds)
    (hc : ∀ i, i < ds.length → w.cell? ⟨b, o + i, none⟩ = some (.int .u64 (ds.getD i 0))) :
    Calls Try.prog 90 #[.slice (some ⟨b, o, none⟩) ds.length cap] w fun e w' => ∃ v, e = .returned v ∧ Ext w w' ∧ HalfAt w' v (val B64 ds) (2 * ds.length) := by
  obtain ⟨i0, hi0, hz0, hz1, hz2⟩ := info_parts info32
  go_enter Try.func90, Try.ntmps90
  go_wp2_with fail
  go_loopw [3, 4] (fun v i wr => ∃ k : Nat, k ≤ ds.length ∧ i = .int .i64 k ∧ wr.ownsRow w.heap.size 131 1 v (2 * k) ((hv (ds.take k)).map (Value.int .u32)) ∧ Ext w wr) (fun _ i _ => ds.length - (intOf i).toNat)
  case atStart => exact ⟨0, Nat.zero_le _, rfl, World.ownsRow_nil _ _ _ _, Ext.refl _⟩
  case round =>
    obtain ⟨k, hk, rfl, hown, hext⟩ := hrel
    rcases Nat.lt_or_ge k ds.length with hlt | hge
    · have hcell := hext.cell (hc k hlt)
      obtain ⟨d0, d1⟩ := hD.at k hlt
      unfold B64 at d1
      have hrow := hown.lt
      have hne : some b ≠ Value.ownBlock _ := fun e => by have := hrow b e.symm; omega
      have hbl : b < wr.heap.size := Nat.lt_of_lt_of_le hb hext.size
      have hn2 : 2 * k + 2 ≤ maxLen := by unfold maxLen; omega
      have hstep : hv (ds.take (k + 1)) = hv (ds.take k) ++ [IntKind.u32.wrap (ds.getD k 0), IntKind.u32.wrap (ds.getD k 0 / 4294967296)] := by
        have e : IntKind.u32.wrap (ds.getD k 0 / 4294967296) = ds.getD k 0 / 4294967296 := by rw [IntKind.wrap_u32]; omega
        rw [take_succ_getD ds k hlt, hv_append, e, IntKind.wrap_u32]; rfl
      have HS := Lib.hid hstep
      clear hstep
      generalize ds.getD k 0 = d at hcell d0 d1 HS
      go_wp2_with fail
      go_region_held3 (fun w' => w'.cell? ⟨b, o + k, none⟩ = some (.int .u64 d)) (first | (simp [go_sem, *]; done) | (rw [hgrow.cell_far _ (by simp; omega) hne]; simp [go_sem, *]))
        ((refine step_append_lies _ (by rfl) _ _ _ (by rfl) w.heap.size 131 i0 _ 1 4 Try.underlying129 hi0 hz0 hz1 hz2 rfl (by omega) _ (2 * k) _ (by rfl) ((hown.alloc _).drew) ⟨wr.heap.size, 0, none⟩ 2 2 [.int .u32 (IntKind.u32.wrap d), .int .u32 (IntKind.u32.wrap (d / 4294967296))] (by rfl) (by rfl) (World.news_of_block (cs := #[.int .u32 (IntKind.u32.wrap d), .int .u32 (IntKind.u32.wrap (d / 4294967296))]) (t := 131) (fr := (0, 0)) (heap_alloc_new wr _)) (by simp [Value.oneCell']) (by omega) hn2 (by omega) (by simp; have := hext.size; omega) (wr.heap.size + 1) (by simp) ?_; intro gg cap' w1 hown1 hgrow hat hlt1))
      have X : Ext w w1 := Ext.grown (hext.alloc _).drew hgrow (fun r hr => (hrow r hr).1)
      clear hown hgrow hcell hne hrow
      go_wp2_with fail
      have hown2 : w1.ownsRow w.heap.size 131 1 (.slice (some ⟨gg, 0, none⟩) (2 * k + 2) cap') (2 * (k + 1)) ((hv (ds.take (k + 1))).map (Value.int .u32)) := by
        rw [HS.out, List.map_append]; exact hown1
      exact ⟨⟨k + 1, by omega, by go_num, hown2, X⟩, by simp [intOf]; omega⟩
    · obtain rfl : k = ds.length := by omega
      rw [List.take_length] at hown
      have HC := Lib.hid (cut_any (Row.of_owns hown).1)
      clear hown
      go_wp2_with fail
      refine HC.out.mono ?_
      rintro e w' ⟨v', n, hcut, rfl, hrow, rfl⟩
      have hn : n ≤ 2 * ds.length := by have := hcut.le; rw [hv_length] at this; exact this
      have R := Lib.hid (⟨⟨(hv ds).take n, hrow, (hv_digs ds hD).take n, hcut.neat, by rw [hcut.val, hv_val], by rw [List.length_take]; omega⟩⟩ : HalfAt wr v' (val B64 ds) (2 * ds.length))
      clear hcut hrow hn
      go_wp2
      go_ret
      exact ⟨_, rfl, hext, R.out⟩
/-- A number of the reference, as a world holds it, of at most L digits. -/
structure NatAt (w : World) (v : Value) (x : Int) (L : Nat) : Prop where
  is : ∃ ds, Row .u64 w v ds ∧ Digs B64 ds ∧ Neat ds ∧ val B64 ds = x ∧ ds.length ≤ L
theorem NatAt.ext {w w' : World} {v : Value} {x : Int} {L : Nat} (h : NatAt w v x L) (e : Ext w w') : NatAt w' v x L := by
  obtain ⟨ds, h1, h2⟩ := h.is; exact ⟨⟨ds, h1.ext e, h2⟩⟩
theorem HalfAt.ext {w w' : World} {v : Value} {x : Int} {L : Nat} (h : HalfAt w v x L) (e : Ext w w') : HalfAt w' v x L := by
  obtain ⟨ds, h1, h2⟩ := h.is; exact ⟨⟨ds, h1.ext e, h2⟩⟩
theorem halves_empty (a : Option Addr) (cap : Nat) (w : World) :
    Calls Try.prog 90 #[.slice a 0 cap] w fun e w' => e = .returned (.slice none 0 0) ∧ w = w' := by
  have HC := Lib.hid (fun v => cut_empty none 0 v)
  go_enter Try.func90, Try.ntmps90
  go_wp2_with fail
  refine wp_loop_rounds 1 ?_
  rw [rounds_succ]
  go_wp2_with fail; refine (HC.out _).mono ?_; rintro e w' ⟨rfl, rfl⟩
  go_wp2
  go_ret
  exact ⟨rfl, rfl⟩
theorem halves_any {v : Value} {x : Int} {L : Nat} {w : World} (h : NatAt w v x L) (hL : L ≤ 1000000) :
    Calls Try.prog 90 #[v] w fun e w' => ∃ v', e = .returned v' ∧ Ext w w' ∧ HalfAt w' v' x (2 * L) := by
  obtain ⟨ds, ⟨a, cap, rfl, h1, h2, h3⟩, hD, hN, rfl, hlen⟩ := h.is
  by_cases hn : ds = []
  · subst hn
    refine (halves_empty a cap w).mono ?_
    rintro e w' ⟨rfl, rfl⟩
    exact ⟨_, rfl, Ext.refl _, ⟨⟨[], Row.nil _ _, (fun d hd => absurd hd (by simp)), Or.inl rfl, rfl, Nat.zero_le _⟩⟩⟩
  · obtain ⟨b, o, rfl, hc⟩ := h3 hn
    have hpos : 0 < ds.length := List.length_pos_iff.2 hn
    have hb := cell_lt (hc 0 hpos)
    refine (halves_walk b o cap ds w (by omega) hb hD hc).mono ?_
    rintro e w' ⟨v', rfl, x, h⟩
    obtain ⟨es, k1, k2, k3, k4, k5⟩ := h.is
    exact ⟨v', rfl, x, ⟨⟨es, k1, k2, k3, k4, by omega⟩⟩⟩
end Go.Proofs.Ytjmecongccjcgaa
namespace Go.Proofs.Ytjmecongccjcgaa
open Go.RowKit
/-- The digits of 64 bits of digits of 32. -/
def wn : List Int → List Int
  | [] => []
  | [a] => [a]
  | a :: b :: ds => (a + b * 4294967296) :: wn ds
theorem wn_val : ∀ ds : List Int, val B64 (wn ds) = val B32 ds
  | [] => rfl
  | [a] => by simp only [wn, val]; omega
  | a :: b :: ds => by
    have := wn_val ds
    simp only [wn, val]
    rw [this]
    unfold B32 B64
    omega
theorem wn_length : ∀ ds : List Int, (wn ds).length = (ds.length + 1) / 2
  | [] => rfl
  | [a] => by simp [wn]
  | a :: b :: ds => by
    have := wn_length ds
    simp only [wn, List.length_cons]
    omega
theorem wn_append : ∀ xs ys : List Int, xs.length % 2 = 0 → wn (xs ++ ys) = wn xs ++ wn ys
  | [], ys, _ => rfl
  | [a], ys, h => by simp at h
  | a :: b :: xs, ys, h => by
    simp only [List.cons_append, wn]
    rw [wn_append xs ys (by simp only [List.length_cons] at h; omega)]
theorem wn_digs : ∀ ds : List Int, Digs B32 ds → Digs B64 (wn ds)
  | [], _ => fun d hd => by cases hd
  | [a], h => fun d hd => by
    have := h d hd
    unfold B32 at this
    unfold B64
    omega
  | a :: b :: ds, h => by
    have ha := h a (by simp)
    have hb := h b (by simp)
    have h1 := wn_digs ds (fun x hx => h x (by simp [hx]))
    unfold B32 at ha hb
    intro x hx
    simp only [wn, List.mem_cons] at hx
    unfold B64
    rcases hx with rfl | hx
    · omega
    · exact h1 x hx
theorem or_comm64 (a b : Int) (a0 : 0 ≤ a) (a1 : a < 18446744073709551616) (b0 : 0 ≤ b) (b1 : b < 18446744073709551616) : bits .or .u64 a b = bits .or .u64 b a := by
  obtain ⟨a, rfl⟩ := Int.eq_ofNat_of_zero_le a0
  obtain ⟨b, rfl⟩ := Int.eq_ofNat_of_zero_le b0
  rw [u64_or_nat a b (by omega) (by omega), u64_or_nat b a (by omega) (by omega), Nat.or_comm]
theorem or_32 (a b : Int) (a0 : 0 ≤ a) (a1 : a < 4294967296) (b0 : 0 ≤ b) (b1 : b < 4294967296) : bits .or .u64 a (IntKind.u64.wrap (b * 4294967296)) = a + b * 4294967296 := by
  have e : IntKind.u64.wrap (b * 4294967296) = b * 4294967296 := by rw [IntKind.wrap_u64]; omega
  rw [e, or_comm64 a _ (by omega) (by omega) (by omega) (by omega), or_disj (b * 4294967296) a 32 (by omega) a0 (by omega) (by omega) (by omega) (by omega)]
  omega
theorem step_1 {ds : List Int} {m n : Nat} (h : m = 2 * n) (h1 : m + 1 = ds.length) : wn (ds.take (m + 2)) = wn (ds.take m) ++ [ds.getD m 0] := by
  have e1 : ds.take (m + 2) = ds.take (m + 1) := by rw [List.take_of_length_le (by omega), List.take_of_length_le (by omega)]
  rw [e1, take_succ_getD ds m (by omega), wn_append _ _ (by rw [List.length_take]; omega)]
  rfl
theorem step_2 {ds : List Int} {m n : Nat} (h : m = 2 * n) (h1 : m + 1 < ds.length) : wn (ds.take (m + 2)) = wn (ds.take m) ++ [ds.getD m 0 + ds.getD (m + 1) 0 * 4294967296] := by
  rw [show m + 2 = (m + 1) + 1 by omega, take_succ_getD ds (m + 1) h1, take_succ_getD ds m (by omega), List.append_assoc, wn_append _ _ (by rw [List.length_take]; omega)]
  rfl
theorem news_1 (w : World) (v : Value) (t : TypeId) : ∀ j u, [v][j]? = some u → (w.alloc (.cells #[v] t)).cell? ((⟨w.heap.size, 0, none⟩ : Addr).add j) = some u :=
  World.news_of_block (cs := #[v]) (t := t) (fr := (0, 0)) (heap_alloc_new w _)
theorem one_1 (k : IntKind) (x : Int) : ∀ u ∈ [Value.int k x], u.oneCell' = true := by
  intro u hu; simp at hu; subst hu; rfl
set_option maxHeartbeats 1000000 in
set_option maxRecDepth 100000 in
theorem whole_walk (b o cap : Nat) (ds : List Int) (w : World) (hl : ds.length ≤ 2000000) (_hb : b < w.heap.size) (hD : Digs B32 ds)
    (hc : ∀ i, i < ds.length → w.cell? ⟨b, o + i, none⟩ = some (.int .u32 (ds.getD i 0))) :
    Calls Try.prog 91 #[.slice (some ⟨b, o, none⟩) ds.length cap] w fun e w' => ∃ v, e = .returned v ∧ Ext w w' ∧ NatAt w' v (val B32 ds) ((ds.length + 1) / 2) ∧ New w v := by
  obtain ⟨i0, hi0, hz0, hz1, hz2⟩ := info_parts info64
  go_enter Try.func91, Try.ntmps91
  go_wp2_with fail
  go_loopw [3, 4] (fun v i wr => ∃ m n : Nat, m = 2 * n ∧ m ≤ ds.length + 1 ∧ i = .int .i64 m ∧ wr.ownsRow w.heap.size 109 1 v n ((wn (ds.take m)).map (Value.int .u64)) ∧ Ext w wr) (fun _ i _ => ds.length + 2 - (intOf i).toNat)
  case atStart => exact ⟨0, 0, rfl, Nat.zero_le _, rfl, World.ownsRow_nil _ _ _ _, Ext.refl _⟩
  case round =>
    obtain ⟨m, n, hm, hk, rfl, hown, hext⟩ := hrel
    rcases Nat.lt_or_ge m ds.length with hlt | hge
    · have hcell := hext.cell (hc m hlt)
      obtain ⟨d0, d1⟩ := hD.at m hlt
      unfold B32 at d1
      have hrow := hown.lt
      have hn2 : n + 1 ≤ maxLen := by unfold maxLen; omega
      have hn3 : (n + 1) * 8 ≤ 140737488355328 := by omega
      have hbase := hext.size
      rcases Nat.lt_or_ge (m + 1) ds.length with hlt2 | hge2
      · have hcell2 := hext.cell (hc (m + 1) hlt2)
        have hlt3 : (m : Int) + 1 < (ds.length : Int) := by omega
        obtain ⟨e0, e1⟩ := hD.at (m + 1) hlt2
        unfold B32 at e1
        have hs := step_2 hm hlt2
        have ho := or_32 _ _ d0 (by exact d1) e0 (by exact e1)
        have e : IntKind.u64.wrap (ds.getD (m + 1) 0 * 4294967296) = ds.getD (m + 1) 0 * 4294967296 := by rw [IntKind.wrap_u64]; omega
        rw [e] at ho
        rw [← ho] at hs
        have HS := Lib.hid hs
        have HM := Lib.hid hm
        clear hm hs ho e
        generalize ds.getD m 0 = x at hcell d0 d1 HS
        generalize ds.getD (m + 1) 0 = y at hcell2 e0 e1 HS
        go_wp2_with (at_builtin; refine wpList_append_own _ rfl _ _ 57 rfl w.heap.size 109 i0 _ 1 8 Try.underlying57 hi0 hz0 hz1 hz2 rfl (by decide) _ _ _ rfl (hown.alloc _) ⟨wr.heap.size, 0, none⟩ 1 1 [.int .u64 (bits .or .u64 x (y * 4294967296))] rfl rfl (news_1 _ _ _) (one_1 _ _) hn2 hn3 (by simp; omega) ?_; intro v' w1 hown1 hgrow _)
        have X : Ext w w1 := Ext.grown (hext.alloc _) hgrow (fun r hr => (hrow r hr).1)
        clear hown hgrow hcell hcell2 hrow
        go_wp2_with fail
        have hown2 : w1.ownsRow w.heap.size 109 1 v' (n + 1) ((wn (ds.take (m + 2))).map (Value.int .u64)) := by
          rw [HS.out, List.map_append]; exact hown1
        have hm := HM.out
        exact ⟨⟨m + 2, n + 1, by omega, by omega, by go_num, hown2, X⟩, by simp [intOf]; omega⟩
      · have hlt3 : (ds.length : Int) ≤ (m : Int) + 1 := by omega
        have HS := Lib.hid (step_1 hm (by omega : m + 1 = ds.length))
        have HM := Lib.hid hm
        clear hm
        generalize ds.getD m 0 = x at hcell d0 d1 HS
        go_wp2_with (at_builtin; refine wpList_append_own _ rfl _ _ 57 rfl w.heap.size 109 i0 _ 1 8 Try.underlying57 hi0 hz0 hz1 hz2 rfl (by decide) _ _ _ rfl (hown.alloc _) ⟨wr.heap.size, 0, none⟩ 1 1 [.int .u64 x] rfl rfl (news_1 _ _ _) (one_1 _ _) hn2 hn3 (by simp; omega) ?_; intro v' w1 hown1 hgrow _)
        have X : Ext w w1 := Ext.grown (hext.alloc _) hgrow (fun r hr => (hrow r hr).1)
        clear hown hgrow hcell hrow
        go_wp2_with fail
        have hown2 : w1.ownsRow w.heap.size 109 1 v' (n + 1) ((wn (ds.take (m + 2))).map (Value.int .u64)) := by
          rw [HS.out, List.map_append]; exact hown1
        have hm := HM.out
        exact ⟨⟨m + 2, n + 1, by omega, by omega, by go_num, hown2, X⟩, by simp [intOf]; omega⟩
    · rw [List.take_of_length_le hge] at hown
      have HC := Lib.hid (trim_new (Row.of_owns hown).1)
      have HO := Lib.hid hown.lt
      clear hown
      go_wp2_with fail
      refine HC.out.mono ?_
      rintro e w' ⟨v', n', hcut, rfl, hrow, rfl, hob⟩
      have HN : Hid (New w v') := Lib.hid (fun b hb => (HO.out b (hob ▸ hb)).1)
      have hn : n' ≤ (ds.length + 1) / 2 := by have := hcut.le; rw [wn_length] at this; exact this
      have R := Lib.hid (⟨⟨(wn ds).take n', hrow, (wn_digs ds hD).take n', hcut.neat, by rw [hcut.val, wn_val], by rw [List.length_take]; omega⟩⟩ : NatAt wr v' (val B32 ds) ((ds.length + 1) / 2))
      clear hcut hrow hn hob
      go_wp2
      go_ret
      exact ⟨_, rfl, hext, R.out, HN.out⟩
theorem whole_empty (a : Option Addr) (cap : Nat) (w : World) :
    Calls Try.prog 91 #[.slice a 0 cap] w fun e w' => e = .returned (.slice none 0 0) ∧ w = w' := by
  have HC := Lib.hid (fun v => trim_empty none 0 v)
  go_enter Try.func91, Try.ntmps91
  go_wp2_with fail
  refine wp_loop_rounds 1 ?_
  rw [rounds_succ]
  go_wp2_with fail; refine (HC.out _).mono ?_; rintro e w' ⟨rfl, rfl⟩
  go_wp2
  go_ret
  exact ⟨rfl, rfl⟩
/-- A row of digits of 32 bits, whichever. -/
theorem whole_new {v : Value} {ds : List Int} {w : World} (h : Row .u32 w v ds) (hD : Digs B32 ds) (hL : ds.length ≤ 2000000) :
    Calls Try.prog 91 #[v] w fun e w' => ∃ v', e = .returned v' ∧ Ext w w' ∧ NatAt w' v' (val B32 ds) ((ds.length + 1) / 2) ∧ New w v' := by
  obtain ⟨a, cap, rfl, h1, h2, h3⟩ := h
  by_cases hn : ds = []
  · subst hn
    refine (whole_empty a cap w).mono ?_
    rintro e w' ⟨rfl, rfl⟩
    exact ⟨_, rfl, Ext.refl _, ⟨⟨[], Row.nil _ _, (fun d hd => absurd hd (by simp)), Or.inl rfl, rfl, Nat.zero_le _⟩⟩, fun b hb => by cases hb⟩
  · obtain ⟨b, o, rfl, hc⟩ := h3 hn
    have hpos : 0 < ds.length := List.length_pos_iff.2 hn
    exact whole_walk b o cap ds w hL (cell_lt (hc 0 hpos)) hD hc
theorem whole_any {v : Value} {ds : List Int} {w : World} (h : Row .u32 w v ds) (hD : Digs B32 ds) (hL : ds.length ≤ 2000000) :
    Calls Try.prog 91 #[v] w fun e w' => ∃ v', e = .returned v' ∧ Ext w w' ∧ NatAt w' v' (val B32 ds) ((ds.length + 1) / 2) :=
  (whole_new h hD hL).mono (by rintro e w' ⟨v', h1, h2, h3, -⟩; exact ⟨v', h1, h2, h3⟩)
end Go.Proofs.Ytjmecongccjcgaa
