/- Rows of digits, and their numbers. ref90: halves. ref90: whole. ref90: NPlus. ref90: NLess. ref90: NTimes. ref90: NOf, NCmp. -/
import Derived.Test.YtkegefnpmijfiaaGreatQGbI
import Derived.Test.YtkegefnpmijfiaaGreatQLeft
import Derived.Test.YtkegefnpmijfiaaGreatQNearsP
import Derived.WalkKit
import Derived.Laws.AppendOwn
import Derived.WalkSpells
import Derived.OwnWalk
import Derived.Laws.OwnMore
import Derived.Deep.RegionHeld3
import Derived.Deep.AppendLies
import Derived.BigQuiet
namespace Go.Proofs.YtkegefnpmijfiaaGreat
open Go.RowKit
/-- The number of a list of digits, the lowest first. -/
def val (B : Int) : List Int → Int
  | [] => 0
  | d :: ds => d + B * val B ds
def Digs (B : Int) (ds : List Int) : Prop := ∀ d ∈ ds, 0 ≤ d ∧ d < B
theorem Digs.at {B : Int} {ds : List Int} (h : Digs B ds) (i : Nat) (hi : i < ds.length) : 0 ≤ ds.getD i 0 ∧ ds.getD i 0 < B := h _ (getD_mem ds i hi)
/-- No digit 0 on top. -/
def Neat (ds : List Int) : Prop := ds = [] ∨ ds.getD (ds.length - 1) 0 ≠ 0
/-- ds without the noughts on top is its first n digits. -/
structure Cut (ds : List Int) (n : Nat) : Prop where
  le : n ≤ ds.length
  zero : ∀ i, n ≤ i → i < ds.length → ds.getD i 0 = 0
  top : n = 0 ∨ ds.getD (n - 1) 0 ≠ 0
theorem Digs.take {B : Int} {ds : List Int} (h : Digs B ds) (n : Nat) : Digs B (ds.take n) := fun d hd => h d (List.mem_of_mem_take hd)
theorem Cut.neat {ds : List Int} {n : Nat} (h : Cut ds n) : Neat (ds.take n) := by
  have hl : (ds.take n).length = n := by rw [List.length_take]; have := h.le; omega
  rcases h.top with h0 | h0
  · left; subst h0; rfl
  · rcases Nat.eq_zero_or_pos n with h1 | h1
    · left; subst h1; rfl
    · right; rw [hl, getD_take _ _ _ (by omega)]; exact h0
theorem val_zeros (B : Int) : ∀ ds : List Int, (∀ i, i < ds.length → ds.getD i 0 = 0) → val B ds = 0
  | [], _ => rfl
  | d :: ds, h => by
    have h0 : d = 0 := h 0 (by simp)
    rw [val, h0, val_zeros B ds (fun i hi => h (i + 1) (by simpa using hi))]; simp
theorem val_take (B : Int) : ∀ (ds : List Int) (n : Nat), (∀ i, n ≤ i → i < ds.length → ds.getD i 0 = 0) → val B (ds.take n) = val B ds
  | [], n, _ => by simp
  | d :: ds, 0, h => by rw [val_zeros B (d :: ds) (fun i hi => h i (by omega) hi)]; rfl
  | d :: ds, n + 1, h => by
    rw [List.take_succ_cons, val, val, val_take B ds n (fun i h1 h2 => h (i + 1) (by omega) (by simpa using h2))]
theorem Cut.val {ds : List Int} {n : Nat} (h : Cut ds n) (B : Int) : val B (ds.take n) = val B ds := val_take B ds n h.zero
set_option maxHeartbeats 1000000 in
theorem cut_walk (b o cap : Nat) (ds : List Int) (w : World) (h1 : ds.length ≤ cap) (h2 : cap ≤ maxLen)
    (hc : ∀ i, i < ds.length → w.cell? ⟨b, o + i, none⟩ = some (.int .u32 (ds.getD i 0))) :
    Calls Tryz.prog 219 #[.slice (some ⟨b, o, none⟩) ds.length cap] w fun e w' => ∃ n, Cut ds n ∧ e = .returned (.slice (some ⟨b, o, none⟩) n cap) ∧ w = w' := by
  unfold maxLen at h2
  go_enter Tryz.func219, Tryz.ntmps219
  go_wp2_with fail
  go_loop [3] (fun i => ∃ n : Nat, n ≤ ds.length ∧ i = .int .i64 n ∧ ∀ i, n ≤ i → i < ds.length → ds.getD i 0 = 0) (fun i => (intOf i).toNat)
  case atStart => exact ⟨ds.length, Nat.le_refl _, rfl, fun i h h' => by omega⟩
  case round =>
    obtain ⟨n, hn, rfl, hz⟩ := hrel
    have HZ := Lib.hid hz
    clear hz
    rcases Nat.eq_zero_or_pos n with h | h
    · subst h
      go_wp2
      go_ret
      exact ⟨0, ⟨Nat.zero_le _, HZ.out, .inl rfl⟩, rfl, rfl⟩
    · have hcell := hc (n - 1) (by omega)
      have en : ((n - 1 : Nat) : Int) = (n : Int) - 1 := by omega
      by_cases hd : ds.getD (n - 1) 0 = 0
      · rw [hd] at hcell
        have HD := Lib.hid hd
        clear hd
        go_wp2_with fail
        refine ⟨⟨n - 1, by omega, by go_num, fun i h3 h4 => ?_⟩, by simp [intOf]; omega⟩
        rcases Nat.lt_or_ge i n with h5 | h5
        · rw [show i = n - 1 by omega]; exact HD.out
        · exact HZ.out i h5 h4
      · have HD := Lib.hid hd
        have hb : (ds.getD (n - 1) 0 == 0) = false := by rw [beq_eq_false_iff_ne]; exact hd
        generalize hx : ds.getD (n - 1) 0 = x at hcell hb
        clear hd hx
        go_wp2
        go_ret
        exact ⟨n, ⟨hn, HZ.out, .inr HD.out⟩, rfl, rfl⟩
theorem cut_empty (a : Option Addr) (cap : Nat) (w : World) :
    Calls Tryz.prog 219 #[.slice a 0 cap] w fun e w' => e = .returned (.slice a 0 cap) ∧ w = w' := by
  go_enter Tryz.func219, Tryz.ntmps219
  go_wp2_with fail
  refine wp_loop_rounds 1 ?_
  rw [rounds_succ]
  go_wp2
  go_ret
  exact ⟨rfl, rfl⟩
theorem cut_new {v : Value} {ds : List Int} {w : World} (h : Row .u32 w v ds) :
    Calls Tryz.prog 219 #[v] w fun e w' => ∃ v' n, Cut ds n ∧ e = .returned v' ∧ Row .u32 w v' (ds.take n) ∧ w = w' ∧ v'.ownBlock = v.ownBlock := by
  obtain ⟨a, cap, rfl, h1, h2, h3⟩ := h
  by_cases hn : ds = []
  · subst hn
    refine (cut_empty a cap w).mono ?_
    rintro e w' ⟨rfl, rfl⟩
    exact ⟨_, 0, ⟨Nat.le_refl _, fun i _ h => by simp at h, .inl rfl⟩, rfl, ⟨a, cap, rfl, h1, h2, fun h => absurd rfl h⟩, rfl, rfl⟩
  · obtain ⟨b, o, rfl, hc⟩ := h3 hn
    refine (cut_walk b o cap ds w h1 h2 hc).mono ?_
    rintro e w' ⟨n, hcut, rfl, rfl⟩
    exact ⟨_, n, hcut, rfl, Row.take h1 h2 hcut.le hc, rfl, rfl⟩
theorem cut_any {v : Value} {ds : List Int} {w : World} (h : Row .u32 w v ds) :
    Calls Tryz.prog 219 #[v] w fun e w' => ∃ v' n, Cut ds n ∧ e = .returned v' ∧ Row .u32 w v' (ds.take n) ∧ w = w' :=
  (cut_new h).mono (by rintro e w' ⟨v', n, h1, h2, h3, h4, -⟩; exact ⟨v', n, h1, h2, h3, h4⟩)
set_option maxHeartbeats 1000000 in
theorem trim_walk (b o cap : Nat) (ds : List Int) (w : World) (h1 : ds.length ≤ cap) (h2 : cap ≤ maxLen)
    (hc : ∀ i, i < ds.length → w.cell? ⟨b, o + i, none⟩ = some (.int .u64 (ds.getD i 0))) :
    Calls Tryz.prog 216 #[.slice (some ⟨b, o, none⟩) ds.length cap] w fun e w' => ∃ n, Cut ds n ∧ e = .returned (.slice (some ⟨b, o, none⟩) n cap) ∧ w = w' := by
  unfold maxLen at h2
  go_enter Tryz.func216, Tryz.ntmps216
  go_wp2_with fail
  go_loop [3] (fun i => ∃ n : Nat, n ≤ ds.length ∧ i = .int .i64 n ∧ ∀ i, n ≤ i → i < ds.length → ds.getD i 0 = 0) (fun i => (intOf i).toNat)
  case atStart => exact ⟨ds.length, Nat.le_refl _, rfl, fun i h h' => by omega⟩
  case round =>
    obtain ⟨n, hn, rfl, hz⟩ := hrel
    have HZ := Lib.hid hz
    clear hz
    rcases Nat.eq_zero_or_pos n with h | h
    · subst h
      go_wp2
      go_ret
      exact ⟨0, ⟨Nat.zero_le _, HZ.out, .inl rfl⟩, rfl, rfl⟩
    · have hcell := hc (n - 1) (by omega)
      have en : ((n - 1 : Nat) : Int) = (n : Int) - 1 := by omega
      by_cases hd : ds.getD (n - 1) 0 = 0
      · rw [hd] at hcell
        have HD := Lib.hid hd
        clear hd
        go_wp2_with fail
        refine ⟨⟨n - 1, by omega, by go_num, fun i h3 h4 => ?_⟩, by simp [intOf]; omega⟩
        rcases Nat.lt_or_ge i n with h5 | h5
        · rw [show i = n - 1 by omega]; exact HD.out
        · exact HZ.out i h5 h4
      · have HD := Lib.hid hd
        have hb : (ds.getD (n - 1) 0 == 0) = false := by rw [beq_eq_false_iff_ne]; exact hd
        generalize hx : ds.getD (n - 1) 0 = x at hcell hb
        clear hd hx
        go_wp2
        go_ret
        exact ⟨n, ⟨hn, HZ.out, .inr HD.out⟩, rfl, rfl⟩
theorem trim_empty (a : Option Addr) (cap : Nat) (w : World) :
    Calls Tryz.prog 216 #[.slice a 0 cap] w fun e w' => e = .returned (.slice a 0 cap) ∧ w = w' := by
  go_enter Tryz.func216, Tryz.ntmps216
  go_wp2_with fail
  refine wp_loop_rounds 1 ?_
  rw [rounds_succ]
  go_wp2
  go_ret
  exact ⟨rfl, rfl⟩
theorem trim_new {v : Value} {ds : List Int} {w : World} (h : Row .u64 w v ds) :
    Calls Tryz.prog 216 #[v] w fun e w' => ∃ v' n, Cut ds n ∧ e = .returned v' ∧ Row .u64 w v' (ds.take n) ∧ w = w' ∧ v'.ownBlock = v.ownBlock := by
  obtain ⟨a, cap, rfl, h1, h2, h3⟩ := h
  by_cases hn : ds = []
  · subst hn
    refine (trim_empty a cap w).mono ?_
    rintro e w' ⟨rfl, rfl⟩
    exact ⟨_, 0, ⟨Nat.le_refl _, fun i _ h => by simp at h, .inl rfl⟩, rfl, ⟨a, cap, rfl, h1, h2, fun h => absurd rfl h⟩, rfl, rfl⟩
  · obtain ⟨b, o, rfl, hc⟩ := h3 hn
    refine (trim_walk b o cap ds w h1 h2 hc).mono ?_
    rintro e w' ⟨n, hcut, rfl, rfl⟩
    exact ⟨_, n, hcut, rfl, Row.take h1 h2 hcut.le hc, rfl, rfl⟩
end Go.Proofs.YtkegefnpmijfiaaGreat
namespace Go.Proofs.YtkegefnpmijfiaaGreat
open Go.RowKit
theorem info32 : (Tryz.prog.info? 261).map (fun i => (i.zero, i.size, i.bytes)) = some (some (.int .u32 0), 1, 4) := by kernel_rfl
theorem info64 : (Tryz.prog.info? 59).map (fun i => (i.zero, i.size, i.bytes)) = some (some (.int .u64 0), 1, 8) := by kernel_rfl
def B32 : Int := 4294967296
def B64 : Int := 18446744073709551616
/-- The digits of 32 bits of digits of 64. -/
def hv : List Int → List Int
  | [] => []
  | d :: ds => d % 4294967296 :: d / 4294967296 :: hv ds
theorem hv_length : ∀ ds : List Int, (hv ds).length = 2 * ds.length
  | [] => rfl
  | d :: ds => by simp only [hv, List.length_cons, hv_length ds]; omega
theorem hv_append : ∀ xs ys : List Int, hv (xs ++ ys) = hv xs ++ hv ys
  | [], ys => rfl
  | x :: xs, ys => by simp only [hv, List.cons_append, hv_append xs ys]
theorem hv_val : ∀ ds : List Int, val B32 (hv ds) = val B64 ds
  | [] => rfl
  | d :: ds => by
    have := hv_val ds
    simp only [hv, val]
    rw [this]
    unfold B32 B64
    omega
theorem hv_digs : ∀ ds : List Int, Digs B64 ds → Digs B32 (hv ds)
  | [], _ => fun d hd => by cases hd
  | d :: ds, h => by
    have h0 := h d (by simp)
    have h1 := hv_digs ds (fun x hx => h x (by simp [hx]))
    unfold B64 at h0
    intro x hx
    simp only [hv, List.mem_cons] at hx
    unfold B32
    rcases hx with rfl | rfl | hx
    · omega
    · omega
    · exact h1 x hx
structure HalfAt (w : World) (v : Value) (x : Int) (L : Nat) : Prop where
  is : ∃ ds, Row .u32 w v ds ∧ Digs B32 ds ∧ Neat ds ∧ val B32 ds = x ∧ ds.length ≤ L
set_option maxHeartbeats 1000000 in
theorem halves_walk (b o cap : Nat) (ds : List Int) (w : World) (hl : ds.length ≤ 1000000) (hb : b < w.heap.size) (hD : Digs B64 ds)
    (hc : ∀ i, i < ds.length → w.cell? ⟨b, o + i, none⟩ = some (.int .u64 (ds.getD i 0))) :
    Calls Tryz.prog 217 #[.slice (some ⟨b, o, none⟩) ds.length cap] w fun e w' => ∃ v, e = .returned v ∧ Ext w w' ∧ HalfAt w' v (val B64 ds) (2 * ds.length) := by
  obtain ⟨i0, hi0, hz0, hz1, hz2⟩ := info_parts info32
  go_enter Tryz.func217, Tryz.ntmps217
  go_wp2_with fail
  go_loopw [3, 4] (fun v i wr => ∃ k : Nat, k ≤ ds.length ∧ i = .int .i64 k ∧ wr.ownsRow w.heap.size 261 1 v (2 * k) ((hv (ds.take k)).map (Value.int .u32)) ∧ Ext w wr) (fun _ i _ => ds.length - (intOf i).toNat)
  case atStart => exact ⟨0, Nat.zero_le _, rfl, World.ownsRow_nil _ _ _ _, Ext.refl _⟩
  case round =>
    obtain ⟨k, hk, rfl, hown, hext⟩ := hrel
    rcases Nat.lt_or_ge k ds.length with hlt | hge
    · have hcell := hext.cell (hc k hlt)
      obtain ⟨d0, d1⟩ := hD.at k hlt
      unfold B64 at d1
      have hrow := hown.lt
      have hne : some b ≠ Value.ownBlock _ := fun e => by have := hrow b e.symm; omega
      have hbl : b < wr.heap.size := Nat.lt_of_lt_of_le hb hext.size
      have hn2 : 2 * k + 2 ≤ maxLen := by unfold maxLen; omega
      have hstep : hv (ds.take (k + 1)) = hv (ds.take k) ++ [IntKind.u32.wrap (ds.getD k 0), IntKind.u32.wrap (ds.getD k 0 / 4294967296)] := by
        have e : IntKind.u32.wrap (ds.getD k 0 / 4294967296) = ds.getD k 0 / 4294967296 := by rw [IntKind.wrap_u32]; omega
        rw [take_succ_getD ds k hlt, hv_append, e, IntKind.wrap_u32]; rfl
      have HS := Lib.hid hstep
      clear hstep
      generalize ds.getD k 0 = d at hcell d0 d1 HS
      go_wp2_with fail
      go_region_held3 (fun w' => w'.cell? ⟨b, o + k, none⟩ = some (.int .u64 d)) (first | (simp [go_sem, *]; done) | (rw [hgrow.cell_far _ (by simp; omega) hne]; simp [go_sem, *]))
        ((refine step_append_lies _ (by rfl) _ _ _ (by rfl) w.heap.size 261 i0 _ 1 4 Tryz.underlying259 hi0 hz0 hz1 hz2 rfl (by omega) _ (2 * k) _ (by rfl) ((hown.alloc _).drew) ⟨wr.heap.size, 0, none⟩ 2 2 [.int .u32 (IntKind.u32.wrap d), .int .u32 (IntKind.u32.wrap (d / 4294967296))] (by rfl) (by rfl) (World.news_of_block (cs := #[.int .u32 (IntKind.u32.wrap d), .int .u32 (IntKind.u32.wrap (d / 4294967296))]) (t := 261) (fr := (0, 0)) (heap_alloc_new wr _)) (by simp [Value.oneCell']) (by omega) hn2 (by omega) (by simp; have := hext.size; omega) (wr.heap.size + 1) (by simp) ?_; intro gg cap' w1 hown1 hgrow hat hlt1))
      have X : Ext w w1 := Ext.grown (hext.alloc _).drew hgrow (fun r hr => (hrow r hr).1)
      clear hown hgrow hcell hne hrow
      go_wp2_with fail
      have hown2 : w1.ownsRow w.heap.size 261 1 (.slice (some ⟨gg, 0, none⟩) (2 * k + 2) cap') (2 * (k + 1)) ((hv (ds.take (k + 1))).map (Value.int .u32)) := by
        rw [HS.out, List.map_append]; exact hown1
      exact ⟨⟨k + 1, by omega, by go_num, hown2, X⟩, by simp [intOf]; omega⟩
    · obtain rfl : k = ds.length := by omega
      rw [List.take_length] at hown
      have HC := Lib.hid (cut_any (Row.of_owns hown).1)
      clear hown
      go_wp2_with fail
      refine HC.out.mono ?_
      rintro e w' ⟨v', n, hcut, rfl, hrow, rfl⟩
      have hn : n ≤ 2 * ds.length := by have := hcut.le; rw [hv_length] at this; exact this
      have R := Lib.hid (⟨⟨(hv ds).take n, hrow, (hv_digs ds hD).take n, hcut.neat, by rw [hcut.val, hv_val], by rw [List.length_take]; omega⟩⟩ : HalfAt wr v' (val B64 ds) (2 * ds.length))
      clear hcut hrow hn
      go_wp2
      go_ret
      exact ⟨_, rfl, hext, R.out⟩
/-- A number of the reference, as a world holds it, of at most L digits. -/
structure NatAt (w : World) (v : Value) (x : Int) (L : Nat) : Prop where
  is : ∃ ds, Row .u64 w v ds ∧ Digs B64 ds ∧ Neat ds ∧ val B64 ds = x ∧ ds.length ≤ L
theorem NatAt.ext {w w' : World} {v : Value} {x : Int} {L : Nat} (h : NatAt w v x L) (e : Ext w w') : NatAt w' v x L := by
  obtain ⟨ds, h1, h2⟩ := h.is; exact ⟨⟨ds, h1.ext e, h2⟩⟩
theorem HalfAt.ext {w w' : World} {v : Value} {x : Int} {L : Nat} (h : HalfAt w v x L) (e : Ext w w') : HalfAt w' v x L := by
  obtain ⟨ds, h1, h2⟩ := h.is; exact ⟨⟨ds, h1.ext e, h2⟩⟩
theorem halves_empty (a : Option Addr) (cap : Nat) (w : World) :
    Calls Tryz.prog 217 #[.slice a 0 cap] w fun e w' => e = .returned (.slice none 0 0) ∧ w = w' := by
  have HC := Lib.hid (fun v => cut_empty none 0 v)
  go_enter Tryz.func217, Tryz.ntmps217
  go_wp2_with fail
  refine wp_loop_rounds 1 ?_
  rw [rounds_succ]
  go_wp2_with fail; refine (HC.out _).mono ?_; rintro e w' ⟨rfl, rfl⟩
  go_wp2
  go_ret
  exact ⟨rfl, rfl⟩
theorem halves_any {v : Value} {x : Int} {L : Nat} {w : World} (h : NatAt w v x L) (hL : L ≤ 1000000) :
    Calls Tryz.prog 217 #[v] w fun e w' => ∃ v', e = .returned v' ∧ Ext w w' ∧ HalfAt w' v' x (2 * L) := by
  obtain ⟨ds, ⟨a, cap, rfl, h1, h2, h3⟩, hD, hN, rfl, hlen⟩ := h.is
  by_cases hn : ds = []
  · subst hn
    refine (halves_empty a cap w).mono ?_
    rintro e w' ⟨rfl, rfl⟩
    exact ⟨_, rfl, Ext.refl _, ⟨⟨[], Row.nil _ _, (fun d hd => absurd hd (by simp)), Or.inl rfl, rfl, Nat.zero_le _⟩⟩⟩
  · obtain ⟨b, o, rfl, hc⟩ := h3 hn
    have hpos : 0 < ds.length := List.length_pos_iff.2 hn
    have hb := cell_lt (hc 0 hpos)
    refine (halves_walk b o cap ds w (by omega) hb hD hc).mono ?_
    rintro e w' ⟨v', rfl, x, h⟩
    obtain ⟨es, k1, k2, k3, k4, k5⟩ := h.is
    exact ⟨v', rfl, x, ⟨⟨es, k1, k2, k3, k4, by omega⟩⟩⟩
end Go.Proofs.YtkegefnpmijfiaaGreat
namespace Go.Proofs.YtkegefnpmijfiaaGreat
open Go.RowKit
/-- The digits of 64 bits of digits of 32. -/
def wn : List Int → List Int
  | [] => []
  | [a] => [a]
  | a :: b :: ds => (a + b * 4294967296) :: wn ds
theorem wn_val : ∀ ds : List Int, val B64 (wn ds) = val B32 ds
  | [] => rfl
  | [a] => by simp only [wn, val]; omega
  | a :: b :: ds => by
    have := wn_val ds
    simp only [wn, val]
    rw [this]
    unfold B32 B64
    omega
theorem wn_length : ∀ ds : List Int, (wn ds).length = (ds.length + 1) / 2
  | [] => rfl
  | [a] => by simp [wn]
  | a :: b :: ds => by
    have := wn_length ds
    simp only [wn, List.length_cons]
    omega
theorem wn_append : ∀ xs ys : List Int, xs.length % 2 = 0 → wn (xs ++ ys) = wn xs ++ wn ys
  | [], ys, _ => rfl
  | [a], ys, h => by simp at h
  | a :: b :: xs, ys, h => by
    simp only [List.cons_append, wn]
    rw [wn_append xs ys (by simp only [List.length_cons] at h; omega)]
theorem wn_digs : ∀ ds : List Int, Digs B32 ds → Digs B64 (wn ds)
  | [], _ => fun d hd => by cases hd
  | [a], h => fun d hd => by
    have := h d hd
    unfold B32 at this
    unfold B64
    omega
  | a :: b :: ds, h => by
    have ha := h a (by simp)
    have hb := h b (by simp)
    have h1 := wn_digs ds (fun x hx => h x (by simp [hx]))
    unfold B32 at ha hb
    intro x hx
    simp only [wn, List.mem_cons] at hx
    unfold B64
    rcases hx with rfl | hx
    · omega
    · exact h1 x hx
theorem or_comm64 (a b : Int) (a0 : 0 ≤ a) (a1 : a < 18446744073709551616) (b0 : 0 ≤ b) (b1 : b < 18446744073709551616) : bits .or .u64 a b = bits .or .u64 b a := by
  obtain ⟨a, rfl⟩ := Int.eq_ofNat_of_zero_le a0
  obtain ⟨b, rfl⟩ := Int.eq_ofNat_of_zero_le b0
  rw [u64_or_nat a b (by omega) (by omega), u64_or_nat b a (by omega) (by omega), Nat.or_comm]
theorem or_32 (a b : Int) (a0 : 0 ≤ a) (a1 : a < 4294967296) (b0 : 0 ≤ b) (b1 : b < 4294967296) : bits .or .u64 a (IntKind.u64.wrap (b * 4294967296)) = a + b * 4294967296 := by
  have e : IntKind.u64.wrap (b * 4294967296) = b * 4294967296 := by rw [IntKind.wrap_u64]; omega
  rw [e, or_comm64 a _ (by omega) (by omega) (by omega) (by omega), or_disj (b * 4294967296) a 32 (by omega) a0 (by omega) (by omega) (by omega) (by omega)]
  omega
theorem step_1 {ds : List Int} {m n : Nat} (h : m = 2 * n) (h1 : m + 1 = ds.length) : wn (ds.take (m + 2)) = wn (ds.take m) ++ [ds.getD m 0] := by
  have e1 : ds.take (m + 2) = ds.take (m + 1) := by rw [List.take_of_length_le (by omega), List.take_of_length_le (by omega)]
  rw [e1, take_succ_getD ds m (by omega), wn_append _ _ (by rw [List.length_take]; omega)]
  rfl
theorem step_2 {ds : List Int} {m n : Nat} (h : m = 2 * n) (h1 : m + 1 < ds.length) : wn (ds.take (m + 2)) = wn (ds.take m) ++ [ds.getD m 0 + ds.getD (m + 1) 0 * 4294967296] := by
  rw [show m + 2 = (m + 1) + 1 by omega, take_succ_getD ds (m + 1) h1, take_succ_getD ds m (by omega), List.append_assoc, wn_append _ _ (by rw [List.length_take]; omega)]
  rfl
theorem news_1 (w : World) (v : Value) (t : TypeId) : ∀ j u, [v][j]? = some u → (w.alloc (.cells #[v] t)).cell? ((⟨w.heap.size, 0, none⟩ : Addr).add j) = some u :=
  World.news_of_block (cs := #[v]) (t := t) (fr := (0, 0)) (heap_alloc_new w _)
theorem one_1 (k : IntKind) (x : Int) : ∀ u ∈ [Value.int k x], u.oneCell' = true := by
  intro u hu; simp at hu; subst hu; rfl
set_option maxHeartbeats 1000000 in
set_option maxRecDepth 100000 in
theorem whole_walk (b o cap : Nat) (ds : List Int) (w : World) (hl : ds.length ≤ 2000000) (_hb : b < w.heap.size) (hD : Digs B32 ds)
    (hc : ∀ i, i < ds.length → w.cell? ⟨b, o + i, none⟩ = some (.int .u32 (ds.getD i 0))) :
    Calls Tryz.prog 218 #[.slice (some ⟨b, o, none⟩) ds.length cap] w fun e w' => ∃ v, e = .returned v ∧ Ext w w' ∧ NatAt w' v (val B32 ds) ((ds.length + 1) / 2) ∧ New w v := by
  obtain ⟨i0, hi0, hz0, hz1, hz2⟩ := info_parts info64
  go_enter Tryz.func218, Tryz.ntmps218
  go_wp2_with fail
  go_loopw [3, 4] (fun v i wr => ∃ m n : Nat, m = 2 * n ∧ m ≤ ds.length + 1 ∧ i = .int .i64 m ∧ wr.ownsRow w.heap.size 59 1 v n ((wn (ds.take m)).map (Value.int .u64)) ∧ Ext w wr) (fun _ i _ => ds.length + 2 - (intOf i).toNat)
  case atStart => exact ⟨0, 0, rfl, Nat.zero_le _, rfl, World.ownsRow_nil _ _ _ _, Ext.refl _⟩
  case round =>
    obtain ⟨m, n, hm, hk, rfl, hown, hext⟩ := hrel
    rcases Nat.lt_or_ge m ds.length with hlt | hge
    · have hcell := hext.cell (hc m hlt)
      obtain ⟨d0, d1⟩ := hD.at m hlt
      unfold B32 at d1
      have hrow := hown.lt
      have hn2 : n + 1 ≤ maxLen := by unfold maxLen; omega
      have hn3 : (n + 1) * 8 ≤ 140737488355328 := by omega
      have hbase := hext.size
      rcases Nat.lt_or_ge (m + 1) ds.length with hlt2 | hge2
      · have hcell2 := hext.cell (hc (m + 1) hlt2)
        have hlt3 : (m : Int) + 1 < (ds.length : Int) := by omega
        obtain ⟨e0, e1⟩ := hD.at (m + 1) hlt2
        unfold B32 at e1
        have hs := step_2 hm hlt2
        have ho := or_32 _ _ d0 (by exact d1) e0 (by exact e1)
        have e : IntKind.u64.wrap (ds.getD (m + 1) 0 * 4294967296) = ds.getD (m + 1) 0 * 4294967296 := by rw [IntKind.wrap_u64]; omega
        rw [e] at ho
        rw [← ho] at hs
        have HS := Lib.hid hs
        have HM := Lib.hid hm
        clear hm hs ho e
        generalize ds.getD m 0 = x at hcell d0 d1 HS
        generalize ds.getD (m + 1) 0 = y at hcell2 e0 e1 HS
        go_wp2_with (at_builtin; refine wpList_append_own _ rfl _ _ 112 rfl w.heap.size 59 i0 _ 1 8 Tryz.underlying112 hi0 hz0 hz1 hz2 rfl (by decide) _ _ _ rfl (hown.alloc _) ⟨wr.heap.size, 0, none⟩ 1 1 [.int .u64 (bits .or .u64 x (y * 4294967296))] rfl rfl (news_1 _ _ _) (one_1 _ _) hn2 hn3 (by simp; omega) ?_; intro v' w1 hown1 hgrow _)
        have X : Ext w w1 := Ext.grown (hext.alloc _) hgrow (fun r hr => (hrow r hr).1)
        clear hown hgrow hcell hcell2 hrow
        go_wp2_with fail
        have hown2 : w1.ownsRow w.heap.size 59 1 v' (n + 1) ((wn (ds.take (m + 2))).map (Value.int .u64)) := by
          rw [HS.out, List.map_append]; exact hown1
        have hm := HM.out
        exact ⟨⟨m + 2, n + 1, by omega, by omega, by go_num, hown2, X⟩, by simp [intOf]; omega⟩
      · have hlt3 : (ds.length : Int) ≤ (m : Int) + 1 := by omega
        have HS := Lib.hid (step_1 hm (by omega : m + 1 = ds.length))
        have HM := Lib.hid hm
        clear hm
        generalize ds.getD m 0 = x at hcell d0 d1 HS
        go_wp2_with (at_builtin; refine wpList_append_own _ rfl _ _ 112 rfl w.heap.size 59 i0 _ 1 8 Tryz.underlying112 hi0 hz0 hz1 hz2 rfl (by decide) _ _ _ rfl (hown.alloc _) ⟨wr.heap.size, 0, none⟩ 1 1 [.int .u64 x] rfl rfl (news_1 _ _ _) (one_1 _ _) hn2 hn3 (by simp; omega) ?_; intro v' w1 hown1 hgrow _)
        have X : Ext w w1 := Ext.grown (hext.alloc _) hgrow (fun r hr => (hrow r hr).1)
        clear hown hgrow hcell hrow
        go_wp2_with fail
        have hown2 : w1.ownsRow w.heap.size 59 1 v' (n + 1) ((wn (ds.take (m + 2))).map (Value.int .u64)) := by
          rw [HS.out, List.map_append]; exact hown1
        have hm := HM.out
        exact ⟨⟨m + 2, n + 1, by omega, by omega, by go_num, hown2, X⟩, by simp [intOf]; omega⟩
    · rw [List.take_of_length_le hge] at hown
      have HC := Lib.hid (trim_new (Row.of_owns hown).1)
      have HO := Lib.hid hown.lt
      clear hown
      go_wp2_with fail
      refine HC.out.mono ?_
      rintro e w' ⟨v', n', hcut, rfl, hrow, rfl, hob⟩
      have HN : Hid (New w v') := Lib.hid (fun b hb => (HO.out b (hob ▸ hb)).1)
      have hn : n' ≤ (ds.length + 1) / 2 := by have := hcut.le; rw [wn_length] at this; exact this
      have R := Lib.hid (⟨⟨(wn ds).take n', hrow, (wn_digs ds hD).take n', hcut.neat, by rw [hcut.val, wn_val], by rw [List.length_take]; omega⟩⟩ : NatAt wr v' (val B32 ds) ((ds.length + 1) / 2))
      clear hcut hrow hn hob
      go_wp2
      go_ret
      exact ⟨_, rfl, hext, R.out, HN.out⟩
theorem whole_empty (a : Option Addr) (cap : Nat) (w : World) :
    Calls Tryz.prog 218 #[.slice a 0 cap] w fun e w' => e = .returned (.slice none 0 0) ∧ w = w' := by
  have HC := Lib.hid (fun v => trim_empty none 0 v)
  go_enter Tryz.func218, Tryz.ntmps218
  go_wp2_with fail
  refine wp_loop_rounds 1 ?_
  rw [rounds_succ]
  go_wp2_with fail; refine (HC.out _).mono ?_; rintro e w' ⟨rfl, rfl⟩
  go_wp2
  go_ret
  exact ⟨rfl, rfl⟩
/-- A row of digits of 32 bits, whichever. -/
theorem whole_new {v : Value} {ds : List Int} {w : World} (h : Row .u32 w v ds) (hD : Digs B32 ds) (hL : ds.length ≤ 2000000) :
    Calls Tryz.prog 218 #[v] w fun e w' => ∃ v', e = .returned v' ∧ Ext w w' ∧ NatAt w' v' (val B32 ds) ((ds.length + 1) / 2) ∧ New w v' := by
  obtain ⟨a, cap, rfl, h1, h2, h3⟩ := h
  by_cases hn : ds = []
  · subst hn
    refine (whole_empty a cap w).mono ?_
    rintro e w' ⟨rfl, rfl⟩
    exact ⟨_, rfl, Ext.refl _, ⟨⟨[], Row.nil _ _, (fun d hd => absurd hd (by simp)), Or.inl rfl, rfl, Nat.zero_le _⟩⟩, fun b hb => by cases hb⟩
  · obtain ⟨b, o, rfl, hc⟩ := h3 hn
    have hpos : 0 < ds.length := List.length_pos_iff.2 hn
    exact whole_walk b o cap ds w hL (cell_lt (hc 0 hpos)) hD hc
end Go.Proofs.YtkegefnpmijfiaaGreat
namespace Go.Proofs.YtkegefnpmijfiaaGreat
open Go.RowKit
theorem Row.cellAt {k : IntKind} {w : World} {a : Option Addr} {n cap : Nat} {ds : List Int} (h : Row k w (.slice a n cap) ds) (i : Nat) (hi : i < ds.length) :
    ∃ b o, a = some ⟨b, o, none⟩ ∧ w.cell? ⟨b, o + i, none⟩ = some (.int k (ds.getD i 0)) := by
  obtain ⟨a', cap', e, h1, h2, h3⟩ := h
  simp only [Value.slice.injEq] at e
  obtain ⟨rfl, -, -⟩ := e
  obtain ⟨b, o, rfl, hc⟩ := h3 (by intro e; subst e; simp at hi)
  exact ⟨b, o, rfl, hc i hi⟩
theorem val_snoc (B d : Int) : ∀ xs : List Int, val B (xs ++ [d]) = val B xs + d * B ^ xs.length
  | [] => by simp [val]
  | x :: xs => by
    simp only [List.cons_append, val, val_snoc B d xs, List.length_cons]
    rw [Int.mul_add, Int.pow_succ, Int.add_assoc, ← Int.mul_assoc B d, Int.mul_comm B d, Int.mul_assoc d B, Int.mul_comm B (B ^ xs.length)]
theorem val_take_succ (B : Int) (ds : List Int) (k : Nat) : val B (ds.take (k + 1)) = val B (ds.take k) + ds.getD k 0 * B ^ k := by
  rcases Nat.lt_or_ge k ds.length with h | h
  · rw [take_succ_getD ds k h, val_snoc, List.length_take, Nat.min_eq_left (by omega)]
  · have e : ds.getD k 0 = 0 := by rw [List.getD_eq_getElem?_getD, List.getElem?_eq_none h]; rfl
    rw [List.take_of_length_le h, List.take_of_length_le (by omega), e]; simp
theorem getD_bd {ds : List Int} (h : Digs B32 ds) (k : Nat) : 0 ≤ ds.getD k 0 ∧ ds.getD k 0 < 4294967296 := by
  rcases Nat.lt_or_ge k ds.length with h' | h'
  · exact h.at k h'
  · rw [List.getD_eq_getElem?_getD, List.getElem?_eq_none h']; exact ⟨Int.le_refl 0, by decide⟩
theorem Digs.snoc {B d : Int} {ds : List Int} (h : Digs B ds) (h0 : 0 ≤ d) (h1 : d < B) : Digs B (ds ++ [d]) := by
  intro x hx
  rcases List.mem_append.1 hx with hx | hx
  · exact h x hx
  · simp at hx; subst hx; exact ⟨h0, h1⟩
theorem NatAt.mono {w : World} {v : Value} {x : Int} {L L' : Nat} (h : NatAt w v x L) (hl : L ≤ L') : NatAt w v x L' := by
  obtain ⟨ds, h1, h2, h3, h4, h5⟩ := h.is; exact ⟨⟨ds, h1, h2, h3, h4, Nat.le_trans h5 hl⟩⟩
structure SumRel (xs ys : List Int) (k : Nat) (c : Int) (zs : List Int) : Prop where
  len : zs.length = k
  digs : Digs B32 zs
  c0 : 0 ≤ c
  c1 : c ≤ 1
  is : val B32 zs + c * B32 ^ k = val B32 (xs.take k) + val B32 (ys.take k)
theorem SumRel.step {xs ys zs : List Int} {k : Nat} {c : Int} (h : SumRel xs ys k c zs) (hx : Digs B32 xs) (hy : Digs B32 ys) :
    SumRel xs ys (k + 1) ((c + xs.getD k 0 + ys.getD k 0) / 4294967296) (zs ++ [(c + xs.getD k 0 + ys.getD k 0) % 4294967296]) := by
  obtain ⟨x0, x1⟩ := getD_bd hx k
  obtain ⟨y0, y1⟩ := getD_bd hy k
  have c0 := h.c0
  have c1 := h.c1
  refine ⟨by simp [h.len], h.digs.snoc (by omega) (by unfold B32; omega), by omega, by omega, ?_⟩
  rw [val_snoc, val_take_succ, val_take_succ, h.len]
  have e := h.is
  generalize xs.getD k 0 = x at *
  generalize ys.getD k 0 = y at *
  have hs : c + x + y = (c + x + y) % 4294967296 + 4294967296 * ((c + x + y) / 4294967296) := by omega
  generalize (c + x + y) % 4294967296 = r at *
  generalize (c + x + y) / 4294967296 = q at *
  have e2 : q * B32 ^ (k + 1) = (4294967296 * q) * B32 ^ k := by
    rw [Int.pow_succ, Int.mul_comm (B32 ^ k), ← Int.mul_assoc, Int.mul_comm q]; rfl
  have e3 : r * B32 ^ k + (4294967296 * q) * B32 ^ k = c * B32 ^ k + x * B32 ^ k + y * B32 ^ k := by
    rw [← Int.add_mul, ← hs, Int.add_mul, Int.add_mul]
  rw [e2]
  generalize B32 ^ k = p at *
  generalize r * p = rp at *
  generalize 4294967296 * q * p = qp at *
  omega
theorem fin_row {w : World} {base : Nat} {e : TypeId} {v : Value} {n : Nat} {zs : List Int} {s : Int} (h : w.ownsRow base e 1 v (n + 1) (zs.map (Value.int .u32) ++ [.int .u32 (IntKind.u32.wrap s)])) :
    w.ownsRow base e 1 v (n + 1) ((zs ++ [s % 4294967296]).map (Value.int .u32)) := by
  rw [List.map_append]; rw [IntKind.wrap_u32] at h; exact h
set_option maxHeartbeats 2000000 in
set_option maxRecDepth 100000 in
theorem NPlus_new {m1 m2 : Value} {x y : Int} {L : Nat} {w : World} (hX : NatAt w m1 x L) (hY : NatAt w m2 y L) (hL : L ≤ 400000) :
    Calls Tryz.prog 150 #[m1, m2] w fun e w' => ∃ v, e = .returned v ∧ Ext w w' ∧ NatAt w' v (x + y) (L + 1) ∧ New w v := by
  obtain ⟨i0, hi0, hz0, hz1, hz2⟩ := info_parts info32
  go_enter Tryz.func150, Tryz.ntmps150
  go_wp2_with fail
  refine (halves_any hX (by omega)).mono ?_
  rintro e v1 ⟨r1, rfl, x1, hx1⟩
  go_wp2_with fail
  refine (halves_any (hY.ext x1) (by omega)).mono ?_
  rintro e v2 ⟨r2, rfl, x2, hy1⟩
  obtain ⟨xs, ⟨ax, capx, rfl, hx2⟩, dX, nX, rfl, lX⟩ := (hx1.ext x2).is
  obtain ⟨ys, ⟨ay, capy, rfl, hy2⟩, dY, nY, rfl, lY⟩ := hy1.is
  have rx' : Row .u32 v2 (.slice ax xs.length capx) xs := ⟨ax, capx, rfl, hx2⟩
  have RX := Lib.hid rx'
  clear rx'
  have ry' : Row .u32 v2 (.slice ay ys.length capy) ys := ⟨ay, capy, rfl, hy2⟩
  have RY := Lib.hid ry'
  clear ry'
  have x12 := x1.tr x2
  clear hx1 hy1 hx2 hy2 nX nY hX hY x1 x2
  go_wp2_with fail
  go_loopw [7, 8, 9] (fun l c i wr => ∃ (k : Nat) (ci : Int) (zs : List Int), k ≤ max xs.length ys.length ∧ i = .int .i64 k ∧ c = .int .u64 ci ∧ SumRel xs ys k ci zs ∧ wr.ownsRow v2.heap.size 261 1 l k (zs.map (Value.int .u32)) ∧ Ext v2 wr) (fun _ _ i _ => max xs.length ys.length - (intOf i).toNat)
  case atStart => exact ⟨0, 0, [], Nat.zero_le _, rfl, rfl, ⟨rfl, fun d hd => absurd hd (by simp), by omega, by omega, by simp [val]⟩, World.ownsRow_nil _ _ _ _, Ext.refl _⟩
  case round =>
    obtain ⟨k, ci, zs, hk, rfl, rfl, hS, hown, hext⟩ := hrel
    have c0 := hS.c0
    have c1 := hS.c1
    have hrow := hown.lt
    have hbase := hext.size
    rcases Nat.lt_or_ge k (max xs.length ys.length) with hlt | hge
    · have hn2 : k + 1 ≤ maxLen := by unfold maxLen; omega
      have hn3 : (k + 1) * 4 ≤ 140737488355328 := by omega
      obtain ⟨d0, d1⟩ := getD_bd dX k
      obtain ⟨e0, e1⟩ := getD_bd dY k
      have SR := Lib.hid (hS.step dX dY)
      clear hS
      rcases Nat.lt_or_ge k xs.length with hx | hx <;> rcases Nat.lt_or_ge k ys.length with hy | hy
      · have SQ := SR
        have nx : (k : Int) < (xs.length : Int) := by omega
        obtain ⟨bx, ox, rfl, cx1⟩ := RX.out.cellAt k hx
        have cx2 := hext.cell cx1
        clear cx1
        have ny : (k : Int) < (ys.length : Int) := by omega
        obtain ⟨by', oy, rfl, cy1⟩ := RY.out.cellAt k hy
        have cy2 := hext.cell cy1
        clear cy1
        clear SQ
        generalize xs.getD k 0 = xd at *
        generalize ys.getD k 0 = yd at *
        go_wp2_with (at_builtin; refine wpList_append_own _ rfl _ _ 259 rfl v2.heap.size 261 i0 _ 1 4 Tryz.underlying259 hi0 hz0 hz1 hz2 rfl (by decide) _ _ _ rfl (hown.alloc _) ⟨wr.heap.size, 0, none⟩ 1 1 [.int .u32 (IntKind.u32.wrap (ci + xd + yd))] rfl rfl (news_1 _ _ _) (one_1 _ _) hn2 hn3 (by simp; omega) ?_; intro v' w1 hown1 hgrow _)
        have X : Ext v2 w1 := Ext.grown (hext.alloc _) hgrow (fun r hr => (hrow r hr).1)
        clear hown hgrow hrow
        go_wp2_with fail
        exact ⟨⟨k + 1, _, _, by omega, by go_num, rfl, SR.out, fin_row hown1, X⟩, by simp [intOf]; omega⟩
      · have ey : ys.getD k 0 = 0 := by rw [List.getD_eq_getElem?_getD, List.getElem?_eq_none hy]; rfl
        have nx : (k : Int) < (xs.length : Int) := by omega
        obtain ⟨bx, ox, rfl, cx1⟩ := RX.out.cellAt k hx
        have cx2 := hext.cell cx1
        clear cx1
        have ny : (ys.length : Int) ≤ (k : Int) := by omega
        rw [ey] at SR
        clear ey
        generalize xs.getD k 0 = xd at *
        have SR' := SR.out
        rw [Int.add_zero] at SR'
        have SR := Lib.hid SR'
        clear SR'
        go_wp2_with (at_builtin; refine wpList_append_own _ rfl _ _ 259 rfl v2.heap.size 261 i0 _ 1 4 Tryz.underlying259 hi0 hz0 hz1 hz2 rfl (by decide) _ _ _ rfl (hown.alloc _) ⟨wr.heap.size, 0, none⟩ 1 1 [.int .u32 (IntKind.u32.wrap (ci + xd))] rfl rfl (news_1 _ _ _) (one_1 _ _) hn2 hn3 (by simp; omega) ?_; intro v' w1 hown1 hgrow _)
        have X : Ext v2 w1 := Ext.grown (hext.alloc _) hgrow (fun r hr => (hrow r hr).1)
        clear hown hgrow hrow
        go_wp2_with fail
        exact ⟨⟨k + 1, _, _, by omega, by go_num, rfl, SR.out, fin_row hown1, X⟩, by simp [intOf]; omega⟩
      · have ex : xs.getD k 0 = 0 := by rw [List.getD_eq_getElem?_getD, List.getElem?_eq_none hx]; rfl
        have nx : (xs.length : Int) ≤ (k : Int) := by omega
        have ny : (k : Int) < (ys.length : Int) := by omega
        obtain ⟨by', oy, rfl, cy1⟩ := RY.out.cellAt k hy
        have cy2 := hext.cell cy1
        clear cy1
        have SR' := SR.out
        rw [ex, Int.add_zero] at SR'
        clear ex SR
        generalize ys.getD k 0 = yd at *
        have SR := Lib.hid SR'
        clear SR'
        go_wp2_with (at_builtin; refine wpList_append_own _ rfl _ _ 259 rfl v2.heap.size 261 i0 _ 1 4 Tryz.underlying259 hi0 hz0 hz1 hz2 rfl (by decide) _ _ _ rfl (hown.alloc _) ⟨wr.heap.size, 0, none⟩ 1 1 [.int .u32 (IntKind.u32.wrap (ci + yd))] rfl rfl (news_1 _ _ _) (one_1 _ _) hn2 hn3 (by simp; omega) ?_; intro v' w1 hown1 hgrow _)
        have X : Ext v2 w1 := Ext.grown (hext.alloc _) hgrow (fun r hr => (hrow r hr).1)
        clear hown hgrow hrow
        go_wp2_with fail
        exact ⟨⟨k + 1, _, _, by omega, by go_num, rfl, SR.out, fin_row hown1, X⟩, by simp [intOf]; omega⟩
      · omega
    · have hn2 : k + 1 ≤ maxLen := by unfold maxLen; omega
      have hn3 : (k + 1) * 4 ≤ 140737488355328 := by omega
      have hlen := hS.len
      have hval : val B32 (zs ++ [ci]) = val B32 xs + val B32 ys := by
        have e := hS.is
        rw [List.take_of_length_le (by omega), List.take_of_length_le (by omega)] at e
        rw [val_snoc, hS.len]; exact e
      have hdig : Digs B32 (zs ++ [ci]) := hS.digs.snoc (by omega) (by unfold B32; omega)
      have hk2 : zs.length + 1 ≤ 800001 := by omega
      have hk3 : zs.length + 1 ≤ 2 * L + 1 := by omega
      have HV := Lib.hid hval
      have HD := Lib.hid hdig
      have HK := Lib.hid hk2
      have HK3 := Lib.hid hk3
      have nx : xs.length ≤ k := by omega
      have ny : ys.length ≤ k := by omega
      clear hS hlen hval hdig hk2 hk3
      go_wp2_with (at_builtin; refine wpList_append_own _ rfl _ _ 259 rfl v2.heap.size 261 i0 _ 1 4 Tryz.underlying259 hi0 hz0 hz1 hz2 rfl (by decide) _ _ _ rfl (hown.alloc _) ⟨wr.heap.size, 0, none⟩ 1 1 [.int .u32 ci] rfl rfl (news_1 _ _ _) (one_1 _ _) hn2 hn3 (by simp; omega) ?_; intro v' w1 hown1 hgrow _)
      have X : Ext v2 w1 := Ext.grown (hext.alloc _) hgrow (fun r hr => (hrow r hr).1)
      have HR := Lib.hid (Row.of_owns (xs := zs ++ [ci]) (by rw [List.map_append]; exact hown1)).1
      clear hown hown1 hgrow hrow
      go_wp2_with fail
      refine (cut_any HR.out).mono ?_
      rintro e w' ⟨v3, n3, hcut, rfl, hrow3, rfl⟩
      have HC := Lib.hid hcut
      clear hcut
      go_wp2_with fail
      refine (whole_new hrow3 (HD.out.take n3) (by rw [List.length_take, List.length_append]; have := HK.out; simp; omega)).mono ?_
      rintro e w' ⟨v4, rfl, x4, h4, hnew⟩
      have HN : Hid (New w v4) := Lib.hid (fun b hb => Nat.le_trans (x12.tr X).size (hnew b hb))
      clear hnew
      rw [HC.out.val, HV.out] at h4
      have H4 := Lib.hid h4
      clear h4 hrow3
      go_wp2
      go_ret
      exact ⟨_, rfl, (x12.tr X).tr x4, H4.out.mono (by rw [List.length_take, List.length_append]; have := HK3.out; simp; omega), HN.out⟩
end Go.Proofs.YtkegefnpmijfiaaGreat
namespace Go.Proofs.YtkegefnpmijfiaaGreat
open Go.RowKit
theorem val_bd {B : Int} (hB : 0 < B) : ∀ ds : List Int, Digs B ds → 0 ≤ val B ds ∧ val B ds < B ^ ds.length
  | [], _ => by simp [val]
  | d :: ds, h => by
    obtain ⟨h1, h2⟩ := h d (by simp)
    obtain ⟨h3, h4⟩ := val_bd hB ds (fun x hx => h x (by simp [hx]))
    simp only [val, List.length_cons, Int.pow_succ]
    have h5 := Int.mul_nonneg (Int.le_of_lt hB) h3
    have h6 := Int.mul_le_mul_of_nonneg_left (show val B ds + 1 ≤ B ^ ds.length by omega) (Int.le_of_lt hB)
    rw [Int.mul_add, Int.mul_one] at h6
    rw [Int.mul_comm _ B]
    omega
theorem val_top {B : Int} (hB : 0 < B) {ds : List Int} (h : Digs B ds) (hn : Neat ds) (h0 : ds ≠ []) : B ^ (ds.length - 1) ≤ val B ds := by
  rcases hn with hn | hn
  · exact absurd hn h0
  · have hl : 0 < ds.length := List.length_pos_iff.2 h0
    have e := val_take_succ B ds (ds.length - 1)
    rw [List.take_of_length_le (by omega)] at e
    have h1 := (val_bd hB (ds.take (ds.length - 1)) (h.take _)).1
    have h2 := h.at (ds.length - 1) (by omega)
    have h3 : (0 : Int) < B ^ (ds.length - 1) := Int.pow_pos hB
    have h4 := Int.mul_le_mul_of_nonneg_right (show 1 ≤ ds.getD (ds.length - 1) 0 by omega) (Int.le_of_lt h3)
    rw [Int.one_mul] at h4
    omega
theorem len_le {B : Int} (hB : 0 < B) {xs ys : List Int} (hx : Digs B xs) (hy : Digs B ys) (ny : Neat ys) (h : val B ys ≤ val B xs) : ys.length ≤ xs.length := by
  by_cases h0 : ys = []
  · subst h0; simp
  · have h1 := (val_bd hB xs hx).2
    have h2 := val_top hB hy ny h0
    rcases Nat.lt_or_ge xs.length ys.length with h3 | h3
    · have := pow_mono' (show 1 ≤ B by omega) (show xs.length ≤ ys.length - 1 by omega)
      omega
    · exact h3
structure LessRel (xs ys : List Int) (k : Nat) (c : Int) (zs : List Int) : Prop where
  len : zs.length = k
  digs : Digs B32 zs
  c0 : -1 ≤ c
  c1 : c ≤ 0
  is : val B32 zs + c * B32 ^ k = val B32 (xs.take k) - val B32 (ys.take k)
theorem LessRel.step {xs ys zs : List Int} {k : Nat} {c : Int} (h : LessRel xs ys k c zs) (hx : Digs B32 xs) (hy : Digs B32 ys) :
    LessRel xs ys (k + 1) ((c + xs.getD k 0 - ys.getD k 0) / 4294967296) (zs ++ [(c + xs.getD k 0 - ys.getD k 0) % 4294967296]) := by
  obtain ⟨x0, x1⟩ := getD_bd hx k
  obtain ⟨y0, y1⟩ := getD_bd hy k
  have c0 := h.c0
  have c1 := h.c1
  refine ⟨by simp [h.len], h.digs.snoc (by omega) (by unfold B32; omega), by omega, by omega, ?_⟩
  rw [val_snoc, val_take_succ, val_take_succ, h.len]
  have e := h.is
  generalize xs.getD k 0 = x at *
  generalize ys.getD k 0 = y at *
  have hs : c + x - y = (c + x - y) % 4294967296 + 4294967296 * ((c + x - y) / 4294967296) := by omega
  generalize (c + x - y) % 4294967296 = r at *
  generalize (c + x - y) / 4294967296 = q at *
  have e2 : q * B32 ^ (k + 1) = (4294967296 * q) * B32 ^ k := by
    rw [Int.pow_succ, Int.mul_comm (B32 ^ k), ← Int.mul_assoc, Int.mul_comm q]; rfl
  have e3 : r * B32 ^ k + (4294967296 * q) * B32 ^ k = c * B32 ^ k + x * B32 ^ k - y * B32 ^ k := by
    rw [← Int.add_mul, ← hs, Int.sub_mul, Int.add_mul]
  rw [e2]
  generalize B32 ^ k = p at *
  generalize r * p = rp at *
  generalize 4294967296 * q * p = qp at *
  omega
theorem fin_row64 {w : World} {base : Nat} {e : TypeId} {v : Value} {n : Nat} {zs : List Int} {s : Int} (h : w.ownsRow base e 1 v (n + 1) (zs.map (Value.int .u32) ++ [.int .u32 (IntKind.u32.wrap (IntKind.u64.wrap s))])) :
    w.ownsRow base e 1 v (n + 1) ((zs ++ [s % 4294967296]).map (Value.int .u32)) := by
  have e : IntKind.u32.wrap (IntKind.u64.wrap s) = s % 4294967296 := by rw [IntKind.wrap_u32, IntKind.wrap_u64]; omega
  rw [List.map_append]; rw [e] at h; exact h
set_option maxHeartbeats 2000000 in
set_option maxRecDepth 100000 in
theorem NLess_new {m1 m2 : Value} {x y : Int} {L : Nat} {w : World} (hX : NatAt w m1 x L) (hY : NatAt w m2 y L) (hxy : y ≤ x) (hL : L ≤ 400000) :
    Calls Tryz.prog 152 #[m1, m2] w fun e w' => ∃ v, e = .returned v ∧ Ext w w' ∧ NatAt w' v (x - y) L ∧ New w v := by
  obtain ⟨i0, hi0, hz0, hz1, hz2⟩ := info_parts info32
  go_enter Tryz.func152, Tryz.ntmps152
  go_wp2_with fail
  refine (halves_any hX (by omega)).mono ?_
  rintro e v1 ⟨r1, rfl, x1, hx1⟩
  go_wp2_with fail
  refine (halves_any (hY.ext x1) (by omega)).mono ?_
  rintro e v2 ⟨r2, rfl, x2, hy1⟩
  obtain ⟨xs, ⟨ax, capx, rfl, hx2⟩, dX, nX, rfl, lX⟩ := (hx1.ext x2).is
  obtain ⟨ys, ⟨ay, capy, rfl, hy2⟩, dY, nY, rfl, lY⟩ := hy1.is
  have rx' : Row .u32 v2 (.slice ax xs.length capx) xs := ⟨ax, capx, rfl, hx2⟩
  have RX := Lib.hid rx'
  have ry' : Row .u32 v2 (.slice ay ys.length capy) ys := ⟨ay, capy, rfl, hy2⟩
  have RY := Lib.hid ry'
  have hll := len_le (by decide) dX dY nY hxy
  have x12 := x1.tr x2
  clear rx' ry' hx1 hy1 hx2 hy2 nX nY hX hY x1 x2
  go_wp2_with fail
  go_loopw [7, 8, 9] (fun l c i wr => ∃ (k : Nat) (ci : Int) (zs : List Int), k ≤ xs.length ∧ i = .int .i64 k ∧ c = .int .i64 ci ∧ LessRel xs ys k ci zs ∧ wr.ownsRow v2.heap.size 261 1 l k (zs.map (Value.int .u32)) ∧ Ext v2 wr) (fun _ _ i _ => xs.length - (intOf i).toNat)
  case atStart => exact ⟨0, 0, [], Nat.zero_le _, rfl, rfl, ⟨rfl, fun d hd => absurd hd (by simp), by omega, by omega, by simp [val]⟩, World.ownsRow_nil _ _ _ _, Ext.refl _⟩
  case round =>
    obtain ⟨k, ci, zs, hk, rfl, rfl, hS, hown, hext⟩ := hrel
    have c0 := hS.c0
    have c1 := hS.c1
    have hrow := hown.lt
    have hbase := hext.size
    rcases Nat.lt_or_ge k xs.length with hx | hge
    · have hn2 : k + 1 ≤ maxLen := by unfold maxLen; omega
      have hn3 : (k + 1) * 4 ≤ 140737488355328 := by omega
      obtain ⟨d0, d1⟩ := getD_bd dX k
      obtain ⟨e0, e1⟩ := getD_bd dY k
      have SR := Lib.hid (hS.step dX dY)
      clear hS
      have nx : (k : Int) < (xs.length : Int) := by omega
      obtain ⟨bx, ox, rfl, cx1⟩ := RX.out.cellAt k hx
      have cx2 := hext.cell cx1
      clear cx1
      rcases Nat.lt_or_ge k ys.length with hy | hy
      · have ny : (k : Int) < (ys.length : Int) := by omega
        obtain ⟨by', oy, rfl, cy1⟩ := RY.out.cellAt k hy
        have cy2 := hext.cell cy1
        clear cy1
        generalize xs.getD k 0 = xd at *
        generalize ys.getD k 0 = yd at *
        go_wp2_with (at_builtin; refine wpList_append_own _ rfl _ _ 259 rfl v2.heap.size 261 i0 _ 1 4 Tryz.underlying259 hi0 hz0 hz1 hz2 rfl (by decide) _ _ _ rfl (hown.alloc _) ⟨wr.heap.size, 0, none⟩ 1 1 [.int .u32 (IntKind.u32.wrap (IntKind.u64.wrap (ci + xd - yd)))] rfl rfl (news_1 _ _ _) (one_1 _ _) hn2 hn3 (by simp; omega) ?_; intro v' w1 hown1 hgrow _)
        have X : Ext v2 w1 := Ext.grown (hext.alloc _) hgrow (fun r hr => (hrow r hr).1)
        clear hown hgrow hrow
        go_wp2_with fail
        exact ⟨⟨k + 1, _, _, by omega, by go_num, rfl, SR.out, fin_row64 hown1, X⟩, by simp [intOf]; omega⟩
      · have ey : ys.getD k 0 = 0 := by rw [List.getD_eq_getElem?_getD, List.getElem?_eq_none hy]; rfl
        have ny : (ys.length : Int) ≤ (k : Int) := by omega
        rw [ey] at SR
        clear ey
        generalize xs.getD k 0 = xd at *
        have SR' := SR.out
        rw [Int.sub_zero] at SR'
        have SR := Lib.hid SR'
        clear SR'
        go_wp2_with (at_builtin; refine wpList_append_own _ rfl _ _ 259 rfl v2.heap.size 261 i0 _ 1 4 Tryz.underlying259 hi0 hz0 hz1 hz2 rfl (by decide) _ _ _ rfl (hown.alloc _) ⟨wr.heap.size, 0, none⟩ 1 1 [.int .u32 (IntKind.u32.wrap (IntKind.u64.wrap (ci + xd)))] rfl rfl (news_1 _ _ _) (one_1 _ _) hn2 hn3 (by simp; omega) ?_; intro v' w1 hown1 hgrow _)
        have X : Ext v2 w1 := Ext.grown (hext.alloc _) hgrow (fun r hr => (hrow r hr).1)
        clear hown hgrow hrow
        go_wp2_with fail
        exact ⟨⟨k + 1, _, _, by omega, by go_num, rfl, SR.out, fin_row64 hown1, X⟩, by simp [intOf]; omega⟩
    · have HV : Hid (val B32 zs = val B32 xs - val B32 ys) := by
        refine Lib.hid ?_
        have e := hS.is
        obtain ⟨z1, z2⟩ := val_bd (by decide) zs hS.digs
        rw [List.take_of_length_le (by omega), List.take_of_length_le (by omega)] at e
        rw [hS.len] at z2
        have hc : ci = 0 := by
          rcases Int.lt_or_le ci 0 with h | h
          · rw [show ci = -1 by omega] at e
            omega
          · omega
        rw [hc] at e; omega
      have HD := Lib.hid hS.digs
      have HK : Hid (zs.length ≤ 2 * L) := Lib.hid (by rw [hS.len]; omega)
      have nx : (xs.length : Int) ≤ (k : Int) := by omega
      have HR := Lib.hid (Row.of_owns hown).1
      clear hS hown hrow
      go_wp2_with fail
      refine (cut_any HR.out).mono ?_
      rintro e w' ⟨v3, n3, hcut, rfl, hrow3, rfl⟩
      have HC := Lib.hid hcut
      clear hcut
      go_wp2_with fail
      refine (whole_new hrow3 (HD.out.take n3) (by rw [List.length_take]; have := HK.out; omega)).mono ?_
      rintro e w' ⟨v4, rfl, x4, h4, hnew⟩
      have HN : Hid (New w v4) := Lib.hid (fun b hb => Nat.le_trans (x12.tr hext).size (hnew b hb))
      clear hnew
      rw [HC.out.val, HV.out] at h4
      have H4 := Lib.hid h4
      clear h4 hrow3
      go_wp2
      go_ret
      exact ⟨_, rfl, (x12.tr hext).tr x4, H4.out.mono (by rw [List.length_take]; have := HK.out; omega), HN.out⟩
end Go.Proofs.YtkegefnpmijfiaaGreat
namespace Go.Proofs.YtkegefnpmijfiaaGreat
open Go.RowKit
theorem val_set (B d : Int) : ∀ (ds : List Int) (i : Nat), i < ds.length → val B (ds.set i d) = val B ds + (d - ds.getD i 0) * B ^ i
  | [], i, h => by simp at h
  | a :: ds, 0, _ => by simp [val]; omega
  | a :: ds, i + 1, h => by
    have e := val_set B d ds i (by simpa using h)
    simp only [List.set_cons_succ, val, e, List.getD_cons_succ, Int.pow_succ]
    rw [Int.mul_add, Int.add_assoc, Int.mul_comm (B ^ i) B, Int.mul_left_comm B (d - ds.getD i 0)]
theorem Digs.set {B d : Int} {ds : List Int} (h : Digs B ds) (i : Nat) (h0 : 0 ≤ d) (h1 : d < B) : Digs B (ds.set i d) := by
  intro x hx
  rcases List.mem_or_eq_of_mem_set hx with hx | rfl
  · exact h x hx
  · exact ⟨h0, h1⟩
theorem getD_set_same (ds : List Int) (i : Nat) (d : Int) (h : i < ds.length) : (ds.set i d).getD i 0 = d := by
  simp [List.getD, h]
theorem getD_set_ne (ds : List Int) (i j : Nat) (d : Int) (h : i ≠ j) : (ds.set i d).getD j 0 = ds.getD j 0 := by
  simp [List.getD, h]
theorem mul_bd32 {x y : Int} (x0 : 0 ≤ x) (x1 : x < 4294967296) (y0 : 0 ≤ y) (y1 : y < 4294967296) : 0 ≤ x * y ∧ x * y ≤ 18446744065119617025 := by
  refine ⟨Int.mul_nonneg x0 y0, ?_⟩
  have a := Int.mul_le_mul_of_nonneg_right (show x ≤ 4294967295 by omega) y0
  omega
/-- Of the first i digits of x each has been taken times y. -/
structure OutRel (xs ys : List Int) (i : Nat) (zs : List Int) : Prop where
  len : zs.length = xs.length + ys.length
  digs : Digs B32 zs
  zero : ∀ j, i + ys.length ≤ j → zs.getD j 0 = 0
  is : val B32 zs = val B32 (xs.take i) * val B32 ys
/-- And of the next one the first k digits of y. -/
structure InRel (xs ys z0 : List Int) (i k : Nat) (c : Int) (zs : List Int) : Prop where
  len : zs.length = xs.length + ys.length
  digs : Digs B32 zs
  c0 : 0 ≤ c
  c1 : c < 4294967296
  same : ∀ j, i + k ≤ j → zs.getD j 0 = z0.getD j 0
  is : val B32 zs + c * B32 ^ (i + k) = val B32 z0 + xs.getD i 0 * val B32 (ys.take k) * B32 ^ i
theorem InRel.start {xs ys z0 : List Int} {i : Nat} (h : OutRel xs ys i z0) : InRel xs ys z0 i 0 0 z0 :=
  ⟨h.len, h.digs, by omega, by omega, fun j _ => rfl, by simp [val]⟩
theorem InRel.step {xs ys z0 zs : List Int} {i k : Nat} {c : Int} (h : InRel xs ys z0 i k c zs) (hi : i < xs.length) (hk : k < ys.length) (hx : Digs B32 xs) (hy : Digs B32 ys) :
    InRel xs ys z0 i (k + 1) ((c + zs.getD (i + k) 0 + xs.getD i 0 * ys.getD k 0) / 4294967296) (zs.set (i + k) ((c + zs.getD (i + k) 0 + xs.getD i 0 * ys.getD k 0) % 4294967296)) := by
  obtain ⟨x0, x1⟩ := getD_bd hx i
  obtain ⟨y0, y1⟩ := getD_bd hy k
  obtain ⟨z0', z1⟩ := getD_bd h.digs (i + k)
  obtain ⟨p0, p1⟩ := mul_bd32 x0 x1 y0 y1
  have c0 := h.c0
  have c1 := h.c1
  refine ⟨by simp [h.len], h.digs.set _ (by omega) (by unfold B32; omega), by omega, by omega, fun j hj => ?_, ?_⟩
  · rw [getD_set_ne _ _ _ _ (by omega)]; exact h.same j (by omega)
  · rw [val_set _ _ _ _ (by rw [h.len]; omega), val_take_succ]
    have e := h.is
    generalize zs.getD (i + k) 0 = z at *
    generalize xs.getD i 0 = x at *
    generalize ys.getD k 0 = y at *
    have e1 : x * (val B32 (ys.take k) + y * B32 ^ k) * B32 ^ i = x * val B32 (ys.take k) * B32 ^ i + x * y * B32 ^ (i + k) := by
      rw [Int.mul_add, Int.add_mul, ← Int.mul_assoc x y, Int.mul_assoc (x * y), ← Int.pow_add, Nat.add_comm k i]
    have hs : c + z + x * y = (c + z + x * y) % 4294967296 + 4294967296 * ((c + z + x * y) / 4294967296) := by omega
    rw [e1]
    generalize x * val B32 (ys.take k) * B32 ^ i = t at *
    generalize x * y = xy at *
    generalize (c + z + xy) % 4294967296 = r at *
    generalize (c + z + xy) / 4294967296 = q at *
    have e2 : q * B32 ^ (i + (k + 1)) = (4294967296 * q) * B32 ^ (i + k) := by
      rw [← Nat.add_assoc, Int.pow_succ, Int.mul_comm (B32 ^ (i + k)), ← Int.mul_assoc, Int.mul_comm q]; rfl
    have e3 : r * B32 ^ (i + k) + (4294967296 * q) * B32 ^ (i + k) = c * B32 ^ (i + k) + z * B32 ^ (i + k) + xy * B32 ^ (i + k) := by
      rw [← Int.add_mul, ← hs, Int.add_mul, Int.add_mul]
    rw [e2, Int.sub_mul]
    generalize B32 ^ (i + k) = p at *
    generalize r * p = rp at *
    generalize 4294967296 * q * p = qp at *
    generalize z * p = zp at *
    generalize c * p = cp at *
    generalize xy * p = xyp at *
    omega
theorem InRel.done {xs ys z0 zs : List Int} {i : Nat} {c : Int} (h : InRel xs ys z0 i ys.length c zs) (h0 : OutRel xs ys i z0) (hi : i < xs.length) :
    OutRel xs ys (i + 1) (zs.set (i + ys.length) c) := by
  have e0 : zs.getD (i + ys.length) 0 = 0 := by rw [h.same _ (Nat.le_refl _)]; exact h0.zero _ (Nat.le_refl _)
  refine ⟨by simp [h.len], h.digs.set _ h.c0 h.c1, fun j hj => ?_, ?_⟩
  · rw [getD_set_ne _ _ _ _ (by omega), h.same _ (by omega)]; exact h0.zero _ (by omega)
  · rw [val_set _ _ _ _ (by rw [h.len]; omega), e0, Int.sub_zero, h.is, h0.is, val_take_succ, List.take_length, Int.add_mul, Int.mul_assoc, Int.mul_assoc, Int.mul_comm (val B32 ys)]
theorem out_start (xs ys : List Int) : OutRel xs ys 0 (List.replicate (xs.length + ys.length) 0) := by
  have z : ∀ j, (List.replicate (xs.length + ys.length) (0 : Int)).getD j 0 = 0 := fun j => by
    rw [List.getD_eq_getElem?_getD, List.getElem?_replicate]; split <;> rfl
  refine ⟨by simp, fun d hd => ?_, fun j _ => z j, ?_⟩
  · have := List.eq_of_mem_replicate hd; subst this; exact ⟨Int.le_refl _, by decide⟩
  · rw [val_zeros _ _ (fun j _ => z j)]; simp [val]
theorem own_drewN {w : World} {base : Nat} {e : TypeId} {size : Nat} {v : Value} {n : Nat} {xs : List Value} (h : w.ownsRow base e size v n xs) (m : Nat) : (w.drewN m).ownsRow base e size v n xs := h
theorem own_set {w : World} {base : Nat} {e : TypeId} {g n cap : Nat} {zs : List Int} {k : IntKind} (h : w.ownsRow base e 1 (.slice (some ⟨g, 0, none⟩) n cap) n (zs.map (Value.int k))) (j : Nat) (d : Int) :
    (w.setCell ⟨g, j, none⟩ (.int k d)).ownsRow base e 1 (.slice (some ⟨g, 0, none⟩) n cap) n ((zs.set j d).map (Value.int k)) := by
  rw [List.map_set]; exact (h.stored j _).1
theorem owns_at {w : World} {base : Nat} {e : TypeId} {g n cap : Nat} {zs : List Int} {k : IntKind} (h : w.ownsRow base e 1 (.slice (some ⟨g, 0, none⟩) n cap) n (zs.map (Value.int k))) (j : Nat) (hj : j < n) :
    w.cell? ⟨g, j, none⟩ = some (.int k (zs.getD j 0)) := by
  have hl : zs.length = n := by simpa using h.1
  rw [h.cellAt j (by omega), List.getElem?_map, List.getD_eq_getElem?_getD, List.getElem?_eq_getElem (by omega)]
  rfl
set_option maxHeartbeats 2000000 in
set_option maxRecDepth 100000 in
theorem NTimes_new {m1 m2 : Value} {x y : Int} {L : Nat} {w : World} (hX : NatAt w m1 x L) (hY : NatAt w m2 y L) (hL : L ≤ 400000) :
    Calls Tryz.prog 153 #[m1, m2] w fun e w' => ∃ v, e = .returned v ∧ Ext w w' ∧ NatAt w' v (x * y) (2 * L) ∧ New w v := by
  obtain ⟨i0, hi0, hz0, hz1, hz2⟩ := info_parts info32
  go_enter Tryz.func153, Tryz.ntmps153
  go_wp2_with fail
  refine (halves_any hX (by omega)).mono ?_
  rintro e v1 ⟨r1, rfl, x1, hx1⟩
  go_wp2_with fail
  refine (halves_any (hY.ext x1) (by omega)).mono ?_
  rintro e v2 ⟨r2, rfl, x2, hy1⟩
  obtain ⟨xs, ⟨ax, capx, rfl, hx2⟩, dX, nX, rfl, lX⟩ := (hx1.ext x2).is
  obtain ⟨ys, ⟨ay, capy, rfl, hy2⟩, dY, nY, rfl, lY⟩ := hy1.is
  have rx' : Row .u32 v2 (.slice ax xs.length capx) xs := ⟨ax, capx, rfl, hx2⟩
  have RX := Lib.hid rx'
  have ry' : Row .u32 v2 (.slice ay ys.length capy) ys := ⟨ay, capy, rfl, hy2⟩
  have RY := Lib.hid ry'
  have x12 := x1.tr x2
  clear rx' ry' hx1 hy1 hx2 hy2 nX nY hX hY x1 x2
  go_wp2_with (at_make; refine wpList_make_full _ rfl _ _ 259 rfl v2.heap.size 261 i0 _ 1 Tryz.underlying259 hi0 hz0 hz1 _ _ _ _ (xs.length + ys.length) rfl rfl (by omega) (by omega) (by rw [hz2]; omega) (by unfold maxLen; omega) (Nat.le_refl _) ?_; intro v3 hown0 hgrow0)
  have hownA : v3.ownsRow v2.heap.size 261 1 (.slice (some ⟨v2.heap.size, 0, none⟩) (xs.length + ys.length) (xs.length + ys.length)) (xs.length + ys.length) ((List.replicate (xs.length + ys.length) 0).map (Value.int .u32)) := by
    rw [List.map_replicate]; have h := hown0; rw [Nat.mul_one, show (Value.int .u32 0).cells = #[.int .u32 0] from rfl, toList_madeCells_one] at h; exact h
  have xA : Ext v2 v3 := Ext.grown (Ext.refl _) hgrow0 (fun r hr => by cases hr)
  have HA := Lib.hid hownA
  clear hown0 hgrow0 hownA
  go_loopw [8] (fun iv wr => ∃ (i : Nat) (zs : List Int), i ≤ xs.length ∧ iv = .int .i64 i ∧ OutRel xs ys i zs ∧ wr.ownsRow v2.heap.size 261 1 (.slice (some ⟨v2.heap.size, 0, none⟩) (xs.length + ys.length) (xs.length + ys.length)) (xs.length + ys.length) (zs.map (Value.int .u32)) ∧ Ext v2 wr) (fun iv _ => xs.length - (intOf iv).toNat)
  case atStart => exact ⟨0, List.replicate (xs.length + ys.length) 0, Nat.zero_le _, rfl, out_start xs ys, HA.out, xA⟩
  case round =>
    obtain ⟨i, z0, hi, rfl, hO, hown, hext⟩ := hrel
    rcases Nat.lt_or_ge i xs.length with hx | hge
    · have HO := Lib.hid hO
      have HW := Lib.hid hown
      clear hO hown
      go_wp2_with fail
      go_loopw [9, 10] (fun cv kv wq => ∃ (k : Nat) (c : Int) (zs : List Int), k ≤ ys.length ∧ kv = .int .i64 k ∧ cv = .int .u64 c ∧ InRel xs ys z0 i k c zs ∧ wq.ownsRow v2.heap.size 261 1 (.slice (some ⟨v2.heap.size, 0, none⟩) (xs.length + ys.length) (xs.length + ys.length)) (xs.length + ys.length) (zs.map (Value.int .u32)) ∧ Ext v2 wq) (fun _ kv _ => ys.length - (intOf kv).toNat)
      case atStart => exact ⟨0, 0, z0, Nat.zero_le _, rfl, rfl, InRel.start HO.out, HW.out, hext⟩
      case round =>
        clear HW hext
        obtain ⟨k, c, zs, hk, rfl, rfl, hI, hown, hext⟩ := hrel
        have c0 := hI.c0
        have c1 := hI.c1
        rcases Nat.lt_or_ge k ys.length with hy | hye
        · have cz := owns_at hown (i + k) (by omega)
          have fz := hown.frozenAt (i + k)
          obtain ⟨bx, ox, rfl, cx1⟩ := RX.out.cellAt i hx
          have cx := hext.cell cx1
          obtain ⟨by', oy, rfl, cy1⟩ := RY.out.cellAt k hy
          have cy := hext.cell cy1
          obtain ⟨a0, a1⟩ := getD_bd dX i
          obtain ⟨b0, b1⟩ := getD_bd dY k
          obtain ⟨e0, e1⟩ := getD_bd hI.digs (i + k)
          obtain ⟨p0, p1⟩ := mul_bd32 a0 a1 b0 b1
          have ST := Lib.hid (hI.step hx hy dX dY)
          have HW := Lib.hid hown
          have nx : (i : Int) < (xs.length : Int) := by omega
          have ny : (k : Int) < (ys.length : Int) := by omega
          have nz : (i : Int) + (k : Int) < (xs.length : Int) + (ys.length : Int) := by omega
          clear cx1 cy1 hI hown
          generalize xs.getD i 0 = xd at *
          generalize ys.getD k 0 = yd at *
          generalize zs.getD (i + k) 0 = zd at *
          go_wp2_with fail
          go_quiet (fail)
          go_wp2_with fail
          exact ⟨⟨k + 1, _, _, by omega, by go_num, rfl, ST.out, own_set (own_drewN HW.out _) _ _, Ext.q⟩, by simp [intOf]; omega⟩
        · obtain rfl : k = ys.length := by omega
          have cz := owns_at hown (i + ys.length) (by omega)
          have fz := hown.frozenAt (i + ys.length)
          have ST := Lib.hid (hI.done HO.out hx)
          have HW := Lib.hid hown
          have nx : (i : Int) < (xs.length : Int) := by omega
          have nz : (i : Int) + (ys.length : Int) < (xs.length : Int) + (ys.length : Int) := by omega
          clear hI hown
          generalize zs.getD (i + ys.length) 0 = zd at *
          go_wp2_with fail
          exact ⟨⟨i + 1, _, by omega, by go_num, ST.out, own_set HW.out _ _, Ext.q⟩, by simp [intOf]; omega⟩
    · obtain rfl : i = xs.length := by omega
      have HV : Hid (val B32 z0 = val B32 xs * val B32 ys) := Lib.hid (by have e := hO.is; rw [List.take_length] at e; exact e)
      have HD := Lib.hid hO.digs
      have HK : Hid (z0.length ≤ 4 * L) := Lib.hid (by rw [hO.len]; omega)
      have HR := Lib.hid (Row.of_owns hown).1
      clear hO hown
      go_wp2_with fail
      refine (cut_any HR.out).mono ?_
      rintro e w' ⟨v4, n3, hcut, rfl, hrow3, rfl⟩
      have HC := Lib.hid hcut
      clear hcut
      go_wp2_with fail
      refine (whole_new hrow3 (HD.out.take n3) (by rw [List.length_take]; have := HK.out; omega)).mono ?_
      rintro e w' ⟨v5, rfl, x4, h4, hnew⟩
      have HN : Hid (New w v5) := Lib.hid (fun b hb => Nat.le_trans (x12.tr hext).size (hnew b hb))
      clear hnew
      rw [HC.out.val, HV.out] at h4
      have H4 := Lib.hid h4
      clear h4 hrow3
      go_wp2
      go_ret
      exact ⟨_, rfl, (x12.tr hext).tr x4, H4.out.mono (by rw [List.length_take]; have := HK.out; omega), HN.out⟩
theorem NTimes_any {m1 m2 : Value} {x y : Int} {L : Nat} {w : World} (hX : NatAt w m1 x L) (hY : NatAt w m2 y L) (hL : L ≤ 400000) :
    Calls Tryz.prog 153 #[m1, m2] w fun e w' => ∃ v, e = .returned v ∧ Ext w w' ∧ NatAt w' v (x * y) (2 * L) :=
  (NTimes_new hX hY hL).mono (by rintro e w' ⟨v', h1, h2, h3, -⟩; exact ⟨v', h1, h2, h3⟩)
end Go.Proofs.YtkegefnpmijfiaaGreat
namespace Go.Proofs.YtkegefnpmijfiaaGreat
open Go.RowKit
theorem NatAt.nn {w : World} {v : Value} {x : Int} {L : Nat} (h : NatAt w v x L) : 0 ≤ x := by
  obtain ⟨ds, h1, h2, h3, rfl, h5⟩ := h.is; exact (val_bd (by decide) ds h2).1
theorem NatAt.of_cut {w : World} {v : Value} {ds : List Int} {n L : Nat} (hr : Row .u64 w v (ds.take n)) (hc : Cut ds n) (hd : Digs B64 ds) (hl : ds.length ≤ L) : NatAt w v (val B64 ds) L :=
  ⟨⟨ds.take n, hr, hd.take n, hc.neat, hc.val _, by rw [List.length_take]; omega⟩⟩
theorem NOf_new (n : Int) (w : World) (h0 : 0 ≤ n) (h1 : n < 18446744073709551616) :
    Calls Tryz.prog 148 #[.int .u64 n] w fun e w' => ∃ v, e = .returned v ∧ Ext w w' ∧ NatAt w' v n 1 ∧ New w v := by
  have hr : Row .u64 (w.alloc (.cells #[.int .u64 n] 59)) (.slice (some ⟨w.heap.size, 0, none⟩) 1 1) [n] := by
    refine ⟨_, 1, rfl, Nat.le_refl _, by unfold maxLen; omega, fun _ => ⟨_, 0, rfl, fun i hi => ?_⟩⟩
    obtain rfl : i = 0 := by simpa using hi
    simp
  have HC := Lib.hid (trim_new hr)
  clear hr
  go_enter Tryz.func148, Tryz.ntmps148
  go_wp2_with fail
  refine HC.out.mono ?_
  rintro e w' ⟨v3, n3, hcut, rfl, hrow3, rfl, hob⟩
  have HN : Hid (New w v3) := Lib.hid (fun b hb => by rw [hob] at hb; simp [Value.ownBlock] at hb; omega)
  have h := NatAt.of_cut hrow3 hcut (L := 1) (fun d hd => by simp at hd; subst hd; exact ⟨h0, h1⟩) (by simp)
  rw [show val B64 [n] = n by simp [val]] at h
  have H := Lib.hid h
  clear h hrow3 hcut hob
  go_wp2
  go_ret
  exact ⟨_, rfl, Ext.q, H.out, HN.out⟩
theorem NOf_any (n : Int) (w : World) (h0 : 0 ≤ n) (h1 : n < 18446744073709551616) :
    Calls Tryz.prog 148 #[.int .u64 n] w fun e w' => ∃ v, e = .returned v ∧ Ext w w' ∧ NatAt w' v n 1 :=
  (NOf_new n w h0 h1).mono (by rintro e w' ⟨v', h1, h2, h3, -⟩; exact ⟨v', h1, h2, h3⟩)
/-- -1, 0, 1. -/
def cmpI (x y : Int) : Int := if x < y then -1 else if y < x then 1 else 0
theorem cmpI_lt {x y : Int} (h : x < y) : cmpI x y = -1 := by unfold cmpI; rw [if_pos h]
theorem cmpI_gt {x y : Int} (h : y < x) : cmpI x y = 1 := by unfold cmpI; rw [if_neg (by omega), if_pos h]
theorem cmpI_eq (x : Int) : cmpI x x = 0 := by unfold cmpI; rw [if_neg (by omega), if_neg (by omega)]
theorem val_split (B : Int) : ∀ (ds : List Int) (j : Nat), j ≤ ds.length → val B ds = val B (ds.take j) + B ^ j * val B (ds.drop j)
  | ds, 0, _ => by simp [val]
  | [], j + 1, h => by simp at h
  | d :: ds, j + 1, h => by
    simp only [List.take_succ_cons, List.drop_succ_cons, val]
    rw [val_split B ds j (by simpa using h), Int.pow_succ, Int.mul_add, Int.mul_comm (B ^ j) B, Int.mul_assoc, Int.add_assoc]
theorem val_lt {B : Int} (hB : 0 < B) {xs ys : List Int} (hx : Digs B xs) (hy : Digs B ys) (hl : xs.length = ys.length) (j : Nat) (hj : j < xs.length)
    (he : ∀ i, j + 1 ≤ i → i < xs.length → xs.getD i 0 = ys.getD i 0) (h : xs.getD j 0 < ys.getD j 0) : val B xs < val B ys := by
  have hd : xs.drop (j + 1) = ys.drop (j + 1) := by
    apply List.ext_getElem (by simp [hl])
    intro i h1 h2
    have := he (j + 1 + i) (by omega) (by simp at h1; omega)
    simp at h1 h2
    rw [List.getD_eq_getElem?_getD, List.getD_eq_getElem?_getD, List.getElem?_eq_getElem (by omega), List.getElem?_eq_getElem (by omega)] at this
    simpa using this
  rw [val_split B xs (j + 1) (by omega), val_split B ys (j + 1) (by omega), hd, val_take_succ, val_take_succ]
  obtain ⟨a0, a1⟩ := val_bd hB (xs.take j) (hx.take j)
  obtain ⟨b0, b1⟩ := val_bd hB (ys.take j) (hy.take j)
  rw [List.length_take, Nat.min_eq_left (by omega)] at a1
  have h3 : (0 : Int) < B ^ j := Int.pow_pos hB
  have h4 := Int.mul_le_mul_of_nonneg_right (show xs.getD j 0 + 1 ≤ ys.getD j 0 by omega) (Int.le_of_lt h3)
  rw [Int.add_mul, Int.one_mul] at h4
  omega
theorem val_len_lt {B : Int} (hB : 0 < B) {xs ys : List Int} (hx : Digs B xs) (hy : Digs B ys) (ny : Neat ys) (h : xs.length < ys.length) : val B xs < val B ys := by
  rcases Int.lt_or_le (val B xs) (val B ys) with h' | h'
  · exact h'
  · have := len_le hB hx hy ny h'; omega
theorem ext_getD {xs ys : List Int} (hl : xs.length = ys.length) (h : ∀ j, j < xs.length → xs.getD j 0 = ys.getD j 0) : xs = ys := by
  apply List.ext_getElem hl
  intro i h1 h2
  have := h i h1
  rw [List.getD_eq_getElem?_getD, List.getD_eq_getElem?_getD, List.getElem?_eq_getElem h1, List.getElem?_eq_getElem h2] at this
  simpa using this
set_option maxHeartbeats 1000000 in
set_option maxRecDepth 100000 in
theorem NCmp_any {m1 m2 : Value} {x y : Int} {L : Nat} {w : World} (hX : NatAt w m1 x L) (hY : NatAt w m2 y L) (hL : L ≤ 1000000) :
    Calls Tryz.prog 151 #[m1, m2] w fun e w' => e = .returned (.int .i64 (cmpI x y)) ∧ Ext w w' := by
  obtain ⟨xs, ⟨ax, capx, rfl, hx2⟩, dX, nX, rfl, lX⟩ := hX.is
  obtain ⟨ys, ⟨ay, capy, rfl, hy2⟩, dY, nY, rfl, lY⟩ := hY.is
  have rx' : Row .u64 w (.slice ax xs.length capx) xs := ⟨ax, capx, rfl, hx2⟩
  have RX := Lib.hid rx'
  have ry' : Row .u64 w (.slice ay ys.length capy) ys := ⟨ay, capy, rfl, hy2⟩
  have RY := Lib.hid ry'
  clear rx' ry' hx2 hy2 hX hY
  rcases Nat.lt_trichotomy xs.length ys.length with h | h | h
  · have c := cmpI_lt (val_len_lt (by decide) dX dY nY h)
    have HC := Lib.hid c
    have n1 : ((xs.length : Int) == (ys.length : Int)) = false := by rw [beq_eq_false_iff_ne]; omega
    clear c
    go_enter Tryz.func151, Tryz.ntmps151
    go_wp2
    go_ret
    exact ⟨by rw [HC.out]; rfl, Ext.q⟩
  · go_enter Tryz.func151, Tryz.ntmps151
    go_wp2_with fail
    go_loopw [5] (fun iv wr => ∃ k : Nat, k ≤ xs.length ∧ iv = .int .i64 ((k : Int) - 1) ∧ (∀ j, k ≤ j → j < xs.length → xs.getD j 0 = ys.getD j 0) ∧ Ext w wr) (fun iv _ => (intOf iv + 1).toNat)
    case atStart => exact ⟨xs.length, Nat.le_refl _, by rw [h], fun j h1 h2 => by omega, Ext.refl _⟩
    case round =>
      obtain ⟨k, hk, rfl, hs, hext⟩ := hrel
      have HS := Lib.hid hs
      have HH := Lib.hid h
      clear hs
      rcases Nat.eq_zero_or_pos k with hk0 | hk0
      · subst hk0
        have c : cmpI (val B64 xs) (val B64 ys) = 0 := by rw [ext_getD h (fun j hj => HS.out j (Nat.zero_le _) hj)]; exact cmpI_eq _
        have HC := Lib.hid c
        clear c h
        go_wp2
        go_ret
        exact ⟨by rw [HC.out]; rfl, hext⟩
      · obtain ⟨bx, ox, rfl, cx1⟩ := RX.out.cellAt (k - 1) (by omega)
        have cx := hext.cell cx1
        obtain ⟨by', oy, rfl, cy1⟩ := RY.out.cellAt (k - 1) (by omega)
        have cy := hext.cell cy1
        have en : ((k - 1 : Nat) : Int) = (k : Int) - 1 := by omega
        have nx : (k : Int) - 1 < (xs.length : Int) := by omega
        have ny : (k : Int) - 1 < (ys.length : Int) := by omega
        have e1 : ∀ i, k - 1 + 1 ≤ i → i < xs.length → xs.getD i 0 = ys.getD i 0 := fun i h1 h2 => HS.out i (by omega) h2
        clear cx1 cy1
        rcases Int.lt_trichotomy (xs.getD (k - 1) 0) (ys.getD (k - 1) 0) with hd | hd | hd
        · have HC := Lib.hid (cmpI_lt (val_lt (by decide) dX dY h (k - 1) (by omega) e1 hd))
          clear e1 h
          generalize xs.getD (k - 1) 0 = xd at *
          generalize ys.getD (k - 1) 0 = yd at *
          go_wp2_with fail
          go_quiet (fail)
          go_wp2
          go_ret
          exact ⟨by rw [HC.out]; rfl, Ext.q⟩
        · have HD := Lib.hid hd
          rw [hd] at cx
          clear e1 h hd
          generalize ys.getD (k - 1) 0 = yd at cx cy
          go_wp2_with fail
          go_quiet (fail)
          go_wp2_with fail
          go_quiet (fail)
          go_wp2_with fail
          refine ⟨⟨k - 1, by omega, by rw [en], fun j h1 h2 => ?_, Ext.q⟩, by simp [intOf]; omega⟩
          rcases Nat.lt_or_ge j k with h3 | h3
          · rw [show j = k - 1 by omega]; exact HD.out
          · exact HS.out j h3 h2
        · have HC := Lib.hid (cmpI_gt (val_lt (by decide) dY dX h.symm (k - 1) (by omega) (fun i h1 h2 => (e1 i h1 (by omega)).symm) hd))
          clear e1 h
          generalize xs.getD (k - 1) 0 = xd at *
          generalize ys.getD (k - 1) 0 = yd at *
          have hnd : ¬ xd < yd := by omega
          go_wp2_with fail
          go_quiet (fail)
          go_wp2_with fail
          go_quiet (fail)
          go_wp2
          go_ret
          exact ⟨by rw [HC.out]; rfl, Ext.q⟩
  · have c := cmpI_gt (val_len_lt (by decide) dY dX nX h)
    have HC := Lib.hid c
    have n1 : ((xs.length : Int) == (ys.length : Int)) = false := by rw [beq_eq_false_iff_ne]; omega
    clear c
    go_enter Tryz.func151, Tryz.ntmps151
    go_wp2
    go_ret
    exact ⟨by rw [HC.out]; rfl, Ext.q⟩
end Go.Proofs.YtkegefnpmijfiaaGreat
