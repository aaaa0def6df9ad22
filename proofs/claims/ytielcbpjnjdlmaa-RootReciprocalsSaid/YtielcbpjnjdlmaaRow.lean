/- Rows of digits, and their numbers. -/
import Derived.Test.YtielcbpjnjdlmaaBase
import Derived.WalkKit
import Derived.Laws.AppendOwn
namespace Go.Proofs.Ytielcbpjnjdlmaa
open Go.RowKit
/-- v is a slice of the numbers ds, as w holds them. -/
def Row (k : IntKind) (w : World) (v : Value) (ds : List Int) : Prop :=
  ∃ a cap, v = .slice a ds.length cap ∧ ds.length ≤ cap ∧ cap ≤ maxLen ∧ (ds ≠ [] → ∃ b o, a = some ⟨b, o, none⟩ ∧ ∀ i, i < ds.length → w.cell? ⟨b, o + i, none⟩ = some (.int k (ds.getD i 0)))
theorem Row.ext {k : IntKind} {w w' : World} {v : Value} {ds : List Int} (h : Row k w v ds) (x : Ext w w') : Row k w' v ds := by
  obtain ⟨a, cap, rfl, h1, h2, h3⟩ := h
  refine ⟨a, cap, rfl, h1, h2, fun hn => ?_⟩
  obtain ⟨b, o, rfl, hc⟩ := h3 hn
  exact ⟨b, o, rfl, fun i hi => x.cell (hc i hi)⟩
/-- The number of a list of digits, the lowest first. -/
def val (B : Int) : List Int → Int
  | [] => 0
  | d :: ds => d + B * val B ds
def Digs (B : Int) (ds : List Int) : Prop := ∀ d ∈ ds, 0 ≤ d ∧ d < B
theorem getD_mem (ds : List Int) (i : Nat) (h : i < ds.length) : ds.getD i 0 ∈ ds := by
  rw [List.getD_eq_getElem?_getD, List.getElem?_eq_getElem h]; exact List.getElem_mem h
theorem Digs.at {B : Int} {ds : List Int} (h : Digs B ds) (i : Nat) (hi : i < ds.length) : 0 ≤ ds.getD i 0 ∧ ds.getD i 0 < B := h _ (getD_mem ds i hi)
/-- No digit 0 on top. -/
def Neat (ds : List Int) : Prop := ds = [] ∨ ds.getD (ds.length - 1) 0 ≠ 0
/-- ds without the noughts on top is its first n digits. -/
structure Cut (ds : List Int) (n : Nat) : Prop where
  le : n ≤ ds.length
  zero : ∀ i, n ≤ i → i < ds.length → ds.getD i 0 = 0
  top : n = 0 ∨ ds.getD (n - 1) 0 ≠ 0
/-- v's row, if it has one, is none of w's. -/
def New (w : World) (v : Value) : Prop := ∀ b, v.ownBlock = some b → w.heap.size ≤ b
theorem getD_take (ds : List Int) (n i : Nat) (h : i < n) : (ds.take n).getD i 0 = ds.getD i 0 := by
  simp [List.getD, h]
theorem Digs.take {B : Int} {ds : List Int} (h : Digs B ds) (n : Nat) : Digs B (ds.take n) := fun d hd => h d (List.mem_of_mem_take hd)
theorem Cut.neat {ds : List Int} {n : Nat} (h : Cut ds n) : Neat (ds.take n) := by
  have hl : (ds.take n).length = n := by rw [List.length_take]; have := h.le; omega
  rcases h.top with h0 | h0
  · left; subst h0; rfl
  · rcases Nat.eq_zero_or_pos n with h1 | h1
    · left; subst h1; rfl
    · right; rw [hl, getD_take _ _ _ (by omega)]; exact h0
theorem val_zeros (B : Int) : ∀ ds : List Int, (∀ i, i < ds.length → ds.getD i 0 = 0) → val B ds = 0
  | [], _ => rfl
  | d :: ds, h => by
    have h0 : d = 0 := h 0 (by simp)
    rw [val, h0, val_zeros B ds (fun i hi => h (i + 1) (by simpa using hi))]; simp
theorem val_take (B : Int) : ∀ (ds : List Int) (n : Nat), (∀ i, n ≤ i → i < ds.length → ds.getD i 0 = 0) → val B (ds.take n) = val B ds
  | [], n, _ => by simp
  | d :: ds, 0, h => by rw [val_zeros B (d :: ds) (fun i hi => h i (by omega) hi)]; rfl
  | d :: ds, n + 1, h => by
    rw [List.take_succ_cons, val, val, val_take B ds n (fun i h1 h2 => h (i + 1) (by omega) (by simpa using h2))]
theorem Cut.val {ds : List Int} {n : Nat} (h : Cut ds n) (B : Int) : val B (ds.take n) = val B ds := val_take B ds n h.zero
theorem Row.nil (k : IntKind) (w : World) : Row k w (.slice none 0 0) [] := ⟨none, 0, rfl, Nat.le_refl _, by unfold maxLen; omega, fun h => absurd rfl h⟩
theorem Row.take {k : IntKind} {w : World} {b o cap n : Nat} {ds : List Int} (h1 : ds.length ≤ cap) (h2 : cap ≤ maxLen) (hn : n ≤ ds.length)
    (hc : ∀ i, i < ds.length → w.cell? ⟨b, o + i, none⟩ = some (.int k (ds.getD i 0))) : Row k w (.slice (some ⟨b, o, none⟩) n cap) (ds.take n) := by
  have hl : (ds.take n).length = n := by rw [List.length_take]; omega
  refine ⟨some ⟨b, o, none⟩, cap, by rw [hl], by omega, h2, fun _ => ⟨b, o, rfl, fun i hi => ?_⟩⟩
  rw [hl] at hi
  rw [getD_take _ _ _ hi]; exact hc i (by omega)
set_option maxHeartbeats 1000000 in
theorem cut_walk (b o cap : Nat) (ds : List Int) (w : World) (h1 : ds.length ≤ cap) (h2 : cap ≤ maxLen)
    (hc : ∀ i, i < ds.length → w.cell? ⟨b, o + i, none⟩ = some (.int .u32 (ds.getD i 0))) :
    Calls Try.prog 149 #[.slice (some ⟨b, o, none⟩) ds.length cap] w fun e w' => ∃ n, Cut ds n ∧ e = .returned (.slice (some ⟨b, o, none⟩) n cap) ∧ w = w' := by
  unfold maxLen at h2
  go_enter Try.func149, Try.ntmps149
  go_wp2_with fail
  go_loop [3] (fun i => ∃ n : Nat, n ≤ ds.length ∧ i = .int .i64 n ∧ ∀ i, n ≤ i → i < ds.length → ds.getD i 0 = 0) (fun i => (intOf i).toNat)
  case atStart => exact ⟨ds.length, Nat.le_refl _, rfl, fun i h h' => by omega⟩
  case round =>
    obtain ⟨n, hn, rfl, hz⟩ := hrel
    have HZ := Lib.hid hz
    clear hz
    rcases Nat.eq_zero_or_pos n with h | h
    · subst h
      go_wp2
      go_ret
      exact ⟨0, ⟨Nat.zero_le _, HZ.out, .inl rfl⟩, rfl, rfl⟩
    · have hcell := hc (n - 1) (by omega)
      have en : ((n - 1 : Nat) : Int) = (n : Int) - 1 := by omega
      by_cases hd : ds.getD (n - 1) 0 = 0
      · rw [hd] at hcell
        have HD := Lib.hid hd
        clear hd
        go_wp2_with fail
        refine ⟨⟨n - 1, by omega, by go_num, fun i h3 h4 => ?_⟩, by simp [intOf]; omega⟩
        rcases Nat.lt_or_ge i n with h5 | h5
        · rw [show i = n - 1 by omega]; exact HD.out
        · exact HZ.out i h5 h4
      · have HD := Lib.hid hd
        have hb : (ds.getD (n - 1) 0 == 0) = false := by rw [beq_eq_false_iff_ne]; exact hd
        generalize hx : ds.getD (n - 1) 0 = x at hcell hb
        clear hd hx
        go_wp2
        go_ret
        exact ⟨n, ⟨hn, HZ.out, .inr HD.out⟩, rfl, rfl⟩
theorem cut_empty (a : Option Addr) (cap : Nat) (w : World) :
    Calls Try.prog 149 #[.slice a 0 cap] w fun e w' => e = .returned (.slice a 0 cap) ∧ w = w' := by
  go_enter Try.func149, Try.ntmps149
  go_wp2_with fail
  refine wp_loop_rounds 1 ?_
  rw [rounds_succ]
  go_wp2
  go_ret
  exact ⟨rfl, rfl⟩
theorem cut_new {v : Value} {ds : List Int} {w : World} (h : Row .u32 w v ds) :
    Calls Try.prog 149 #[v] w fun e w' => ∃ v' n, Cut ds n ∧ e = .returned v' ∧ Row .u32 w v' (ds.take n) ∧ w = w' ∧ v'.ownBlock = v.ownBlock := by
  obtain ⟨a, cap, rfl, h1, h2, h3⟩ := h
  by_cases hn : ds = []
  · subst hn
    refine (cut_empty a cap w).mono ?_
    rintro e w' ⟨rfl, rfl⟩
    exact ⟨_, 0, ⟨Nat.le_refl _, fun i _ h => by simp at h, .inl rfl⟩, rfl, ⟨a, cap, rfl, h1, h2, fun h => absurd rfl h⟩, rfl, rfl⟩
  · obtain ⟨b, o, rfl, hc⟩ := h3 hn
    refine (cut_walk b o cap ds w h1 h2 hc).mono ?_
    rintro e w' ⟨n, hcut, rfl, rfl⟩
    exact ⟨_, n, hcut, rfl, Row.take h1 h2 hcut.le hc, rfl, rfl⟩
theorem cut_any {v : Value} {ds : List Int} {w : World} (h : Row .u32 w v ds) :
    Calls Try.prog 149 #[v] w fun e w' => ∃ v' n, Cut ds n ∧ e = .returned v' ∧ Row .u32 w v' (ds.take n) ∧ w = w' :=
  (cut_new h).mono (by rintro e w' ⟨v', n, h1, h2, h3, h4, -⟩; exact ⟨v', n, h1, h2, h3, h4⟩)
set_option maxHeartbeats 1000000 in
theorem trim_walk (b o cap : Nat) (ds : List Int) (w : World) (h1 : ds.length ≤ cap) (h2 : cap ≤ maxLen)
    (hc : ∀ i, i < ds.length → w.cell? ⟨b, o + i, none⟩ = some (.int .u64 (ds.getD i 0))) :
    Calls Try.prog 108 #[.slice (some ⟨b, o, none⟩) ds.length cap] w fun e w' => ∃ n, Cut ds n ∧ e = .returned (.slice (some ⟨b, o, none⟩) n cap) ∧ w = w' := by
  unfold maxLen at h2
  go_enter Try.func108, Try.ntmps108
  go_wp2_with fail
  go_loop [3] (fun i => ∃ n : Nat, n ≤ ds.length ∧ i = .int .i64 n ∧ ∀ i, n ≤ i → i < ds.length → ds.getD i 0 = 0) (fun i => (intOf i).toNat)
  case atStart => exact ⟨ds.length, Nat.le_refl _, rfl, fun i h h' => by omega⟩
  case round =>
    obtain ⟨n, hn, rfl, hz⟩ := hrel
    have HZ := Lib.hid hz
    clear hz
    rcases Nat.eq_zero_or_pos n with h | h
    · subst h
      go_wp2
      go_ret
      exact ⟨0, ⟨Nat.zero_le _, HZ.out, .inl rfl⟩, rfl, rfl⟩
    · have hcell := hc (n - 1) (by omega)
      have en : ((n - 1 : Nat) : Int) = (n : Int) - 1 := by omega
      by_cases hd : ds.getD (n - 1) 0 = 0
      · rw [hd] at hcell
        have HD := Lib.hid hd
        clear hd
        go_wp2_with fail
        refine ⟨⟨n - 1, by omega, by go_num, fun i h3 h4 => ?_⟩, by simp [intOf]; omega⟩
        rcases Nat.lt_or_ge i n with h5 | h5
        · rw [show i = n - 1 by omega]; exact HD.out
        · exact HZ.out i h5 h4
      · have HD := Lib.hid hd
        have hb : (ds.getD (n - 1) 0 == 0) = false := by rw [beq_eq_false_iff_ne]; exact hd
        generalize hx : ds.getD (n - 1) 0 = x at hcell hb
        clear hd hx
        go_wp2
        go_ret
        exact ⟨n, ⟨hn, HZ.out, .inr HD.out⟩, rfl, rfl⟩
theorem trim_empty (a : Option Addr) (cap : Nat) (w : World) :
    Calls Try.prog 108 #[.slice a 0 cap] w fun e w' => e = .returned (.slice a 0 cap) ∧ w = w' := by
  go_enter Try.func108, Try.ntmps108
  go_wp2_with fail
  refine wp_loop_rounds 1 ?_
  rw [rounds_succ]
  go_wp2
  go_ret
  exact ⟨rfl, rfl⟩
theorem trim_new {v : Value} {ds : List Int} {w : World} (h : Row .u64 w v ds) :
    Calls Try.prog 108 #[v] w fun e w' => ∃ v' n, Cut ds n ∧ e = .returned v' ∧ Row .u64 w v' (ds.take n) ∧ w = w' ∧ v'.ownBlock = v.ownBlock := by
  obtain ⟨a, cap, rfl, h1, h2, h3⟩ := h
  by_cases hn : ds = []
  · subst hn
    refine (trim_empty a cap w).mono ?_
    rintro e w' ⟨rfl, rfl⟩
    exact ⟨_, 0, ⟨Nat.le_refl _, fun i _ h => by simp at h, .inl rfl⟩, rfl, ⟨a, cap, rfl, h1, h2, fun h => absurd rfl h⟩, rfl, rfl⟩
  · obtain ⟨b, o, rfl, hc⟩ := h3 hn
    refine (trim_walk b o cap ds w h1 h2 hc).mono ?_
    rintro e w' ⟨n, hcut, rfl, rfl⟩
    exact ⟨_, n, hcut, rfl, Row.take h1 h2 hcut.le hc, rfl, rfl⟩
theorem trim_any {v : Value} {ds : List Int} {w : World} (h : Row .u64 w v ds) :
    Calls Try.prog 108 #[v] w fun e w' => ∃ v' n, Cut ds n ∧ e = .returned v' ∧ Row .u64 w v' (ds.take n) ∧ w = w' :=
  (trim_new h).mono (by rintro e w' ⟨v', n, h1, h2, h3, h4, -⟩; exact ⟨v', n, h1, h2, h3, h4⟩)
end Go.Proofs.Ytielcbpjnjdlmaa
