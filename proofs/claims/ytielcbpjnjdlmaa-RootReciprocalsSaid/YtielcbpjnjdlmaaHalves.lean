/- ref90: halves. -/
import Derived.Test.YtielcbpjnjdlmaaRow
import Derived.WalkSpells
import Derived.OwnWalk
import Derived.Laws.OwnMore
import Derived.Deep.RegionHeld3
import Derived.Deep.AppendLies
namespace Go.Proofs.Ytielcbpjnjdlmaa
open Go.RowKit
theorem info32 : (Try.prog.info? 201).map (fun i => (i.zero, i.size, i.bytes)) = some (some (.int .u32 0), 1, 4) := by kernel_rfl
theorem info64 : (Try.prog.info? 24).map (fun i => (i.zero, i.size, i.bytes)) = some (some (.int .u64 0), 1, 8) := by kernel_rfl
def B32 : Int := 4294967296
def B64 : Int := 18446744073709551616
theorem Ext.grown {a b c : World} {row : Option Nat} (h : Ext a b) (hg : b.grownBy c row) (hrow : ∀ k, row = some k → a.heap.size ≤ k) : Ext a c :=
  ⟨hg.os.trans h.os, hg.tape.trans h.tape, hg.output.trans h.output, Nat.le_trans h.size hg.size, fun i hi =>
    (hg.block i (Nat.lt_of_lt_of_le hi h.size) (fun e => by have := hrow i e.symm; omega)).trans (h.block i hi)⟩
theorem Row.of_owns {w : World} {base : Nat} {e : TypeId} {v : Value} {n : Nat} {xs : List Int} {k : IntKind} (h : w.ownsRow base e 1 v n (xs.map (Value.int k))) : Row k w v xs ∧ xs.length = n := by
  have hl : xs.length = n := by simpa using h.1
  subst hl
  refine ⟨?_, rfl⟩
  rcases h.2 with ⟨rfl, h0⟩ | ⟨g, cap, cur, rfl, hb, hg, h1, h2, h3, h4⟩
  · have : xs = [] := List.eq_nil_of_length_eq_zero h0
    subst this; exact Row.nil k w
  · refine ⟨_, cap, rfl, h1, h2, fun _ => ⟨g, 0, rfl, fun i hi => ?_⟩⟩
    rw [Nat.zero_add, h.cellAt i (by omega), List.getElem?_map, List.getD_eq_getElem?_getD, List.getElem?_eq_getElem hi]
    rfl
/-- The digits of 32 bits of digits of 64. -/
def hv : List Int → List Int
  | [] => []
  | d :: ds => d % 4294967296 :: d / 4294967296 :: hv ds
theorem hv_length : ∀ ds : List Int, (hv ds).length = 2 * ds.length
  | [] => rfl
  | d :: ds => by simp only [hv, List.length_cons, hv_length ds]; omega
theorem hv_append : ∀ xs ys : List Int, hv (xs ++ ys) = hv xs ++ hv ys
  | [], ys => rfl
  | x :: xs, ys => by simp only [hv, List.cons_append, hv_append xs ys]
theorem take_succ_getD (ds : List Int) (k : Nat) (h : k < ds.length) : ds.take (k + 1) = ds.take k ++ [ds.getD k 0] := by
  rw [List.take_add_one, List.getD_eq_getElem?_getD, List.getElem?_eq_getElem h]; rfl
theorem hv_val : ∀ ds : List Int, val B32 (hv ds) = val B64 ds
  | [] => rfl
  | d :: ds => by
    have := hv_val ds
    simp only [hv, val]
    rw [this]
    unfold B32 B64
    omega
theorem hv_digs : ∀ ds : List Int, Digs B64 ds → Digs B32 (hv ds)
  | [], _ => fun d hd => by cases hd
  | d :: ds, h => by
    have h0 := h d (by simp)
    have h1 := hv_digs ds (fun x hx => h x (by simp [hx]))
    unfold B64 at h0
    intro x hx
    simp only [hv, List.mem_cons] at hx
    unfold B32
    rcases hx with rfl | rfl | hx
    · omega
    · omega
    · exact h1 x hx
structure HalfAt (w : World) (v : Value) (x : Int) (L : Nat) : Prop where
  is : ∃ ds, Row .u32 w v ds ∧ Digs B32 ds ∧ Neat ds ∧ val B32 ds = x ∧ ds.length ≤ L
set_option maxHeartbeats 1000000 in
theorem halves_walk (b o cap : Nat) (ds : List Int) (w : World) (hl : ds.length ≤ 1000000) (hb : b < w.heap.size) (hD : Digs B64 ds)
    (hc : ∀ i, i < ds.length → w.cell? ⟨b, o + i, none⟩ = some (.int .u64 (ds.getD i 0))) :
    Calls Try.prog 147 #[.slice (some ⟨b, o, none⟩) ds.length cap] w fun e w' => ∃ v, e = .returned v ∧ Ext w w' ∧ HalfAt w' v (val B64 ds) (2 * ds.length) := by
  obtain ⟨i0, hi0, hz0, hz1, hz2⟩ := info_parts info32
  go_enter Try.func147, Try.ntmps147
  go_wp2_with fail
  go_loopw [3, 4] (fun v i wr => ∃ k : Nat, k ≤ ds.length ∧ i = .int .i64 k ∧ wr.ownsRow w.heap.size 201 1 v (2 * k) ((hv (ds.take k)).map (Value.int .u32)) ∧ Ext w wr) (fun _ i _ => ds.length - (intOf i).toNat)
  case atStart => exact ⟨0, Nat.zero_le _, rfl, World.ownsRow_nil _ _ _ _, Ext.refl _⟩
  case round =>
    obtain ⟨k, hk, rfl, hown, hext⟩ := hrel
    rcases Nat.lt_or_ge k ds.length with hlt | hge
    · have hcell := hext.cell (hc k hlt)
      obtain ⟨d0, d1⟩ := hD.at k hlt
      unfold B64 at d1
      have hrow := hown.lt
      have hne : some b ≠ Value.ownBlock _ := fun e => by have := hrow b e.symm; omega
      have hbl : b < wr.heap.size := Nat.lt_of_lt_of_le hb hext.size
      have hn2 : 2 * k + 2 ≤ maxLen := by unfold maxLen; omega
      have hstep : hv (ds.take (k + 1)) = hv (ds.take k) ++ [IntKind.u32.wrap (ds.getD k 0), IntKind.u32.wrap (ds.getD k 0 / 4294967296)] := by
        have e : IntKind.u32.wrap (ds.getD k 0 / 4294967296) = ds.getD k 0 / 4294967296 := by rw [IntKind.wrap_u32]; omega
        rw [take_succ_getD ds k hlt, hv_append, e, IntKind.wrap_u32]; rfl
      have HS := Lib.hid hstep
      clear hstep
      generalize ds.getD k 0 = d at hcell d0 d1 HS
      go_wp2_with fail
      go_region_held3 (fun w' => w'.cell? ⟨b, o + k, none⟩ = some (.int .u64 d)) (first | (simp [go_sem, *]; done) | (rw [hgrow.cell_far _ (by simp; omega) hne]; simp [go_sem, *]))
        ((refine step_append_lies _ (by rfl) _ _ _ (by rfl) w.heap.size 201 i0 _ 1 4 Try.underlying199 hi0 hz0 hz1 hz2 rfl (by omega) _ (2 * k) _ (by rfl) ((hown.alloc _).drew) ⟨wr.heap.size, 0, none⟩ 2 2 [.int .u32 (IntKind.u32.wrap d), .int .u32 (IntKind.u32.wrap (d / 4294967296))] (by rfl) (by rfl) (World.news_of_block (cs := #[.int .u32 (IntKind.u32.wrap d), .int .u32 (IntKind.u32.wrap (d / 4294967296))]) (t := 201) (fr := (0, 0)) (heap_alloc_new wr _)) (by simp [Value.oneCell']) (by omega) hn2 (by omega) (by simp; have := hext.size; omega) (wr.heap.size + 1) (by simp) ?_; intro gg cap' w1 hown1 hgrow hat hlt1))
      have X : Ext w w1 := Ext.grown (hext.alloc _).drew hgrow (fun r hr => (hrow r hr).1)
      clear hown hgrow hcell hne hrow
      go_wp2_with fail
      have hown2 : w1.ownsRow w.heap.size 201 1 (.slice (some ⟨gg, 0, none⟩) (2 * k + 2) cap') (2 * (k + 1)) ((hv (ds.take (k + 1))).map (Value.int .u32)) := by
        rw [HS.out, List.map_append]; exact hown1
      exact ⟨⟨k + 1, by omega, by go_num, hown2, X⟩, by simp [intOf]; omega⟩
    · obtain rfl : k = ds.length := by omega
      rw [List.take_length] at hown
      have HC := Lib.hid (cut_any (Row.of_owns hown).1)
      clear hown
      go_wp2_with fail
      refine HC.out.mono ?_
      rintro e w' ⟨v', n, hcut, rfl, hrow, rfl⟩
      have hn : n ≤ 2 * ds.length := by have := hcut.le; rw [hv_length] at this; exact this
      have R := Lib.hid (⟨⟨(hv ds).take n, hrow, (hv_digs ds hD).take n, hcut.neat, by rw [hcut.val, hv_val], by rw [List.length_take]; omega⟩⟩ : HalfAt wr v' (val B64 ds) (2 * ds.length))
      clear hcut hrow hn
      go_wp2
      go_ret
      exact ⟨_, rfl, hext, R.out⟩
/-- A number of the reference, as a world holds it, of at most L digits. -/
structure NatAt (w : World) (v : Value) (x : Int) (L : Nat) : Prop where
  is : ∃ ds, Row .u64 w v ds ∧ Digs B64 ds ∧ Neat ds ∧ val B64 ds = x ∧ ds.length ≤ L
theorem NatAt.ext {w w' : World} {v : Value} {x : Int} {L : Nat} (h : NatAt w v x L) (e : Ext w w') : NatAt w' v x L := by
  obtain ⟨ds, h1, h2⟩ := h.is; exact ⟨⟨ds, h1.ext e, h2⟩⟩
theorem HalfAt.ext {w w' : World} {v : Value} {x : Int} {L : Nat} (h : HalfAt w v x L) (e : Ext w w') : HalfAt w' v x L := by
  obtain ⟨ds, h1, h2⟩ := h.is; exact ⟨⟨ds, h1.ext e, h2⟩⟩
theorem halves_empty (a : Option Addr) (cap : Nat) (w : World) :
    Calls Try.prog 147 #[.slice a 0 cap] w fun e w' => e = .returned (.slice none 0 0) ∧ w = w' := by
  have HC := Lib.hid (fun v => cut_empty none 0 v)
  go_enter Try.func147, Try.ntmps147
  go_wp2_with fail
  refine wp_loop_rounds 1 ?_
  rw [rounds_succ]
  go_wp2_with fail; refine (HC.out _).mono ?_; rintro e w' ⟨rfl, rfl⟩
  go_wp2
  go_ret
  exact ⟨rfl, rfl⟩
theorem halves_any {v : Value} {x : Int} {L : Nat} {w : World} (h : NatAt w v x L) (hL : L ≤ 1000000) :
    Calls Try.prog 147 #[v] w fun e w' => ∃ v', e = .returned v' ∧ Ext w w' ∧ HalfAt w' v' x (2 * L) := by
  obtain ⟨ds, ⟨a, cap, rfl, h1, h2, h3⟩, hD, hN, rfl, hlen⟩ := h.is
  by_cases hn : ds = []
  · subst hn
    refine (halves_empty a cap w).mono ?_
    rintro e w' ⟨rfl, rfl⟩
    exact ⟨_, rfl, Ext.refl _, ⟨⟨[], Row.nil _ _, (fun d hd => absurd hd (by simp)), Or.inl rfl, rfl, Nat.zero_le _⟩⟩⟩
  · obtain ⟨b, o, rfl, hc⟩ := h3 hn
    have hpos : 0 < ds.length := List.length_pos_iff.2 hn
    have hb := cell_lt (hc 0 hpos)
    refine (halves_walk b o cap ds w (by omega) hb hD hc).mono ?_
    rintro e w' ⟨v', rfl, x, h⟩
    obtain ⟨es, k1, k2, k3, k4, k5⟩ := h.is
    exact ⟨v', rfl, x, ⟨⟨es, k1, k2, k3, k4, by omega⟩⟩⟩
end Go.Proofs.Ytielcbpjnjdlmaa
