/- A list of layers that reads as data is a tree of layers. Definitions read as data: their rows' room too. A list of definitions read as data. -/
import Derived.Test.YtgokenbojppnhaaDoorDefPrint3
import Derived.Test.YtgokenbojppnhaaDoorFieldT
import Derived.ChangeArms
namespace Go.Proofs.YtgokenbojppnhaaDoor
set_option maxRecDepth 100000 in
theorem trod_lay {H : Type} {enc : TypeId × Value → H} {w : World} {base fuel : Nat} {spare : Nat → Bool} {held : Bool} {cs : List Value} {x : DataW H × List MemPlace} (h : DataW.trod enc Tryd.prog w base spare held fuel 52 cs = some x) :
    ∃ n f bv y, fuel = n + 1 ∧ cs = (layA f bv).toList ∧ DataW.trod enc Tryd.prog w base spare held n 25 [bv] = some y := by
  obtain ⟨xs, n, rfl, -, hl, hx, hf⟩ := DataW.trod_struct Tryd.underlying52 h
  rw [show Tryd.prog.cellsOf 52 = 9 from by kernel_rfl] at hl
  have hx9 : xs.length = 9 := hx
  match cs, hl, hf with
  | [c0, c1, c2, c3, c4, c5, c6, c7, c8], _, hf =>
    match xs, hx9, hf with
    | [x0, x1, x2, x3, x4, x5, x6, x7, x8], _, hf =>
      have key : ∀ {c : Value} {z : DataW H × List MemPlace}, DataW.trod enc Tryd.prog w base spare held n 3 [c] = some z → ∃ k, c = .int .i64 k := fun hz => by
        obtain ⟨k, hk, -⟩ := DataW.trod_int Tryd.underlying3 hz
        exact ⟨k, (List.cons.inj hk).1⟩
      have hi : Tryd.prog.cellsOf 3 = 1 := by kernel_rfl
      have hs : Tryd.prog.cellsOf 25 = 1 := by kernel_rfl
      have h0 := hf 0 _ rfl
      change DataW.trod enc Tryd.prog w base spare held n 3 (List.take (Tryd.prog.cellsOf 3) (List.drop 0 [c0, c1, c2, c3, c4, c5, c6, c7, c8])) = some x0 at h0
      rw [hi] at h0
      have h1 := hf 1 _ rfl
      change DataW.trod enc Tryd.prog w base spare held n 3 (List.take (Tryd.prog.cellsOf 3) (List.drop 1 [c0, c1, c2, c3, c4, c5, c6, c7, c8])) = some x1 at h1
      rw [hi] at h1
      have h2 := hf 2 _ rfl
      change DataW.trod enc Tryd.prog w base spare held n 3 (List.take (Tryd.prog.cellsOf 3) (List.drop 2 [c0, c1, c2, c3, c4, c5, c6, c7, c8])) = some x2 at h2
      rw [hi] at h2
      have h3 := hf 3 _ rfl
      change DataW.trod enc Tryd.prog w base spare held n 3 (List.take (Tryd.prog.cellsOf 3) (List.drop 3 [c0, c1, c2, c3, c4, c5, c6, c7, c8])) = some x3 at h3
      rw [hi] at h3
      have h4 := hf 4 _ rfl
      change DataW.trod enc Tryd.prog w base spare held n 3 (List.take (Tryd.prog.cellsOf 3) (List.drop 4 [c0, c1, c2, c3, c4, c5, c6, c7, c8])) = some x4 at h4
      rw [hi] at h4
      have h5 := hf 5 _ rfl
      change DataW.trod enc Tryd.prog w base spare held n 3 (List.take (Tryd.prog.cellsOf 3) (List.drop 5 [c0, c1, c2, c3, c4, c5, c6, c7, c8])) = some x5 at h5
      rw [hi] at h5
      have h6 := hf 6 _ rfl
      change DataW.trod enc Tryd.prog w base spare held n 3 (List.take (Tryd.prog.cellsOf 3) (List.drop 6 [c0, c1, c2, c3, c4, c5, c6, c7, c8])) = some x6 at h6
      rw [hi] at h6
      have h7 := hf 7 _ rfl
      change DataW.trod enc Tryd.prog w base spare held n 3 (List.take (Tryd.prog.cellsOf 3) (List.drop 7 [c0, c1, c2, c3, c4, c5, c6, c7, c8])) = some x7 at h7
      rw [hi] at h7
      have h8 := hf 8 _ rfl
      change DataW.trod enc Tryd.prog w base spare held n 25 (List.take (Tryd.prog.cellsOf 25) (List.drop 8 [c0, c1, c2, c3, c4, c5, c6, c7, c8])) = some x8 at h8
      rw [hs] at h8
      obtain ⟨k0, rfl⟩ := key h0
      obtain ⟨k1, rfl⟩ := key h1
      obtain ⟨k2, rfl⟩ := key h2
      obtain ⟨k3, rfl⟩ := key h3
      obtain ⟨k4, rfl⟩ := key h4
      obtain ⟨k5, rfl⟩ := key h5
      obtain ⟨k6, rfl⟩ := key h6
      obtain ⟨k7, rfl⟩ := key h7
      exact ⟨n, ⟨k0, k1, k2, k3, k4, k5, k6, k7⟩, c8, x8, rfl, rfl, h8⟩
theorem choose_list {α : Type} {P : Nat → α → Prop} : ∀ n, (∀ i, i < n → ∃ x, P i x) → ∃ L : List α, L.length = n ∧ ∀ i (h : i < L.length), P i L[i]
  | 0, _ => ⟨[], rfl, fun i h => by simp at h⟩
  | n + 1, h => by
    obtain ⟨L, hl, hL⟩ := choose_list n (fun i hi => h i (by omega))
    obtain ⟨x, hx⟩ := h n (by omega)
    refine ⟨L ++ [x], by simp [hl], fun i hi => ?_⟩
    by_cases hc : i < L.length
    · rw [List.getElem_append_left hc]; exact hL i hc
    · have : i = n := by simp at hi; omega
      subst this
      rw [List.getElem_append_right (by omega)]
      simpa using hx
theorem trod_lays {H : Type} {enc : TypeId × Value → H} {w : World} {held : Bool} : ∀ (fuel : Nat) {v : Value} {x : DataW H × List MemPlace}, DataW.trod enc Tryd.prog w 0 (fun _ => true) held fuel 25 [v] = some x → ∃ L, LaysAt (fun b => b < w.heap.size) w fuel v L := by
  intro fuel
  induction fuel using Nat.strongRecOn with
  | _ fuel ih =>
    intro v x h
    rcases DataW.trod_slice Tryd.underlying25 h with ⟨hcs, -⟩ | ⟨a, len, cap, el, re, n, rfl, hcs, -, -, hlc, hcm, hle, hx, -, -⟩
    · obtain rfl : v = .slice none 0 0 := (List.cons.inj hcs).1
      exact ⟨[], LaysAt.nil _ _ _ _ _⟩
    · obtain rfl : v = .slice (some a) len cap := (List.cons.inj hcs).1
      rw [show Tryd.prog.cellsOf 52 = 9 from by kernel_rfl] at hx
      have hx2 : ∀ i, i < len → ∃ cs y, w.cells? 0 (a.add (i * 9)) 9 = some cs ∧ DataW.trod enc Tryd.prog w 0 (fun _ => true) held n 52 cs = some y := fun i hi => by
        have := hx i hi
        rw [List.getElem?_eq_getElem (by omega), Option.bind_eq_some_iff] at this
        obtain ⟨cs, h1, h2⟩ := this
        exact ⟨cs, _, h1, h2⟩
      rcases Nat.eq_zero_or_pos len with h0 | h0
      · subst h0; exact ⟨[], LaysAt.nil _ _ _ _ _⟩
      have hform : a = ⟨a.block, a.off, none⟩ ∧ a.block < w.heap.size := by
        obtain ⟨cs', y, h1, h2⟩ := hx2 0 h0
        obtain ⟨_, hcl, hat⟩ := World.cells?_some h1
        have := hat 0 (by omega)
        rw [List.getElem?_eq_getElem (by omega), Nat.zero_mul] at this
        have e : (a.add 0).add 0 = a.add 0 := by unfold Addr.add; simp
        rw [e] at this
        exact ⟨addr_form this rfl, cell_lt this⟩
      obtain ⟨ab, ao, asp⟩ := a
      obtain ⟨hform, hlt⟩ := hform
      obtain rfl : asp = none := by injection hform
      obtain ⟨L, hL, hP⟩ := choose_list (P := fun i l => ∃ bv, (∃ a n c, bv = Value.slice a n c) ∧ (∀ j, j < 9 → w.cell? ⟨ab, ao + i * 9 + j, none⟩ = (layA (Lay.f l) bv)[j]?) ∧ LaysAt (fun b => b < w.heap.size) w n bv (Lay.b l)) len (fun i hi => by
        obtain ⟨cs, y, h1, h2⟩ := hx2 i hi
        obtain ⟨m, f, bv, z, rfl, rfl, h3⟩ := trod_lay h2
        obtain ⟨b, hb⟩ := ih m (by omega) h3
        obtain ⟨_, hcl, hat⟩ := World.cells?_some h1
        obtain ⟨a', c', rfl⟩ := hb.form
        refine ⟨.mk f b, .slice a' b.length c', ⟨_, _, _, rfl⟩, fun j hj => ?_, hb.up⟩
        have := hat j hj
        rw [add_none, add_none] at this
        rw [this]
        exact Array.getElem?_toList)
      refine ⟨L, ⟨some ⟨ab, ao, none⟩, cap, by rw [hL], by omega, fun _ => ⟨ab, ao, rfl, hlt, hP⟩⟩⟩
set_option maxRecDepth 100000 in
/-- A definition read as data. -/
theorem trod_def {H : Type} {enc : TypeId × Value → H} {w : World} {fuel : Nat} {cs : List Value} {x : DataW H × List MemPlace} (h : DataW.trod enc Tryd.prog w 0 (fun _ => true) true fuel 27 cs = some x) :
    ∃ n v d iv lv, cs = [iv, lv, .int .i64 d.loss] ∧ v = .agg #[iv, lv, .int .i64 d.loss] ∧ DefAt (fun b => b < w.heap.size) n w v d := by
  have h' := h
  obtain ⟨xs, n, rfl, -, hl, hx, hf⟩ := DataW.trod_struct Tryd.underlying27 h
  rw [show Tryd.prog.cellsOf 27 = 3 from by kernel_rfl] at hl
  have hx3 : xs.length = 3 := hx
  match cs, hl, hf, h' with
  | [c0, c1, c2], _, hf, h' =>
    match xs, hx3, hf with
    | [x0, x1, x2], _, hf =>
      have h1 := hf 1 _ rfl
      change DataW.trod enc Tryd.prog w 0 (fun _ => true) true n 25 (List.take (Tryd.prog.cellsOf 25) (List.drop 1 [c0, c1, c2])) = some x1 at h1
      rw [show Tryd.prog.cellsOf 25 = 1 from by kernel_rfl] at h1
      have h2 := hf 2 _ rfl
      change DataW.trod enc Tryd.prog w 0 (fun _ => true) true n 3 (List.take (Tryd.prog.cellsOf 3) (List.drop 2 [c0, c1, c2])) = some x2 at h2
      rw [show Tryd.prog.cellsOf 3 = 1 from by kernel_rfl] at h2
      obtain ⟨k, hk, -⟩ := DataW.trod_int Tryd.underlying3 h2
      obtain rfl : c2 = .int .i64 k := (List.cons.inj hk).1
      obtain ⟨L, hL⟩ := trod_lays n h1
      obtain ⟨v, zs, hv, hr, -⟩ := field_row Tryd.underlying27 h' 0 _ 3 .i64 rfl Tryd.underlying24 Tryd.underlying3 (by kernel_rfl) (by kernel_rfl)
      obtain rfl : c0 = v := Option.some.inj hv
      obtain ⟨a2, cc, rfl⟩ := hL.form
      have hr' := hr
      obtain ⟨a1, c1, rfl, -⟩ := hr'
      exact ⟨n, _, ⟨zs, L, k⟩, _, _, rfl, rfl, ⟨⟨a1, c1, a2, cc, rfl, hr, hL⟩, fun _ h => h⟩⟩
end Go.Proofs.YtgokenbojppnhaaDoor
namespace Go.Proofs.YtgokenbojppnhaaDoor
def RoomV (v : Value) : Prop := ∀ a n c, v = .slice a n c → n ≤ c ∧ c ≤ maxLen
theorem trod_room {H : Type} {enc : TypeId × Value → H} {w : World} {fuel : Nat} {v : Value} {x : DataW H × List MemPlace} (h : DataW.trod enc Tryd.prog w 0 (fun _ => true) true fuel 25 [v] = some x) : RoomV v := by
  intro a n c hv
  subst hv
  rcases DataW.trod_slice Tryd.underlying25 h with ⟨hcs, -⟩ | ⟨a', len, cap, el, re, m, rfl, hcs, -, -, hlc, hcm, -, -, -, -⟩
  · have := (List.cons.inj hcs).1
    injection this with _ e2 e3
    subst e2 e3
    exact ⟨Nat.le_refl _, Nat.zero_le _⟩
  · have := (List.cons.inj hcs).1
    injection this with _ e2 e3
    subst e2 e3
    exact ⟨hlc, hcm⟩
set_option maxRecDepth 100000 in
theorem trod_defC {H : Type} {enc : TypeId × Value → H} {w : World} {fuel : Nat} {cs : List Value} {x : DataW H × List MemPlace} (h : DataW.trod enc Tryd.prog w 0 (fun _ => true) true fuel 27 cs = some x) :
    ∃ n d iv lv, cs = [iv, lv, .int .i64 d.loss] ∧ RoomV lv ∧ DefAt (fun b => b < w.heap.size) n w (.agg #[iv, lv, .int .i64 d.loss]) d := by
  obtain ⟨n, v, d, iv, lv, rfl, rfl, hd⟩ := trod_def h
  obtain ⟨xs, m, rfl, -, hl, hx, hf⟩ := DataW.trod_struct Tryd.underlying27 h
  have hx3 : xs.length = 3 := hx
  match xs, hx3, hf with
  | [x0, x1, x2], _, hf =>
    have h1 := hf 1 _ rfl
    change DataW.trod enc Tryd.prog w 0 (fun _ => true) true m 25 (List.take (Tryd.prog.cellsOf 25) (List.drop 1 [iv, lv, .int .i64 d.loss])) = some x1 at h1
    rw [show Tryd.prog.cellsOf 25 = 1 from by kernel_rfl] at h1
    exact ⟨n, d, iv, lv, rfl, trod_room h1, hd⟩
/-- The argument: definitions, one behind the other. -/
def DefsAtC (w : World) (b o len : Nat) : Prop := ∀ k, k < len → ∃ n d iv lv, w.cell? ⟨b, o + k * 3, none⟩ = some iv ∧ w.cell? ⟨b, o + k * 3 + 1, none⟩ = some lv ∧ w.cell? ⟨b, o + k * 3 + 2, none⟩ = some (.int .i64 d.loss) ∧ RoomV lv ∧ DefAt (fun b => b < w.heap.size) n w (.agg #[iv, lv, .int .i64 d.loss]) d
set_option maxRecDepth 100000 in
theorem defsC_open {H : Type} {enc : TypeId × Value → H} {w : World} {base : Nat} {v : Value} {d : DataW H} {p : List MemPlace}
    (hv : Value.okWide Tryd.prog w .any base 22 v) (h : DataW.Trod enc Tryd.prog w 0 (fun _ => true) true 22 v d p) :
    (∃ a cap, v = .slice a 0 cap) ∨ ∃ b o len cap, v = .slice (some ⟨b, o, none⟩) len cap ∧ 0 < len ∧ len ≤ 9223372036854775807 ∧ DefsAtC w b o len := by
  rcases slice_open (C := 3) Tryd.underlying22 (by kernel_rfl) (by omega) hv h with h | ⟨b, o, len, cap, rfl, h0, h1, hx⟩
  · exact .inl h
  · refine .inr ⟨b, o, len, cap, rfl, h0, h1, fun k hk => ?_⟩
    obtain ⟨cs, m, y, hc, hy⟩ := hx k hk
    obtain ⟨n, d, iv, lv, rfl, hr, hd⟩ := trod_defC hy
    exact ⟨n, d, iv, lv, hc 0 _ rfl, hc 1 _ rfl, hc 2 _ rfl, hr, hd⟩
theorem LaysAt.one {A : Nat → Prop} {w : World} {n b o c : Nat} {L : List Lay} (h : LaysAt A w n (.slice (some ⟨b, o, none⟩) L.length c) L) {k : Nat} (hk : k < L.length) (c' : Nat) :
    LaysAt A w n (.slice (some ⟨b, o + k * 9, none⟩) 1 c') [L[k]] := by
  cases n with
  | zero => rw [h.1] at hk; simp at hk
  | succ n =>
    obtain ⟨a, cap, e, h1, h2⟩ := h
    obtain ⟨b', o', e2, hA, h3⟩ := h2 (by rintro rfl; simp at hk)
    injection e with e3 _ _
    rw [e2] at e3
    injection e3 with e3
    injection e3 with e4 e5
    subst e4 e5
    refine ⟨_, c', rfl, by unfold maxLen; simp, fun _ => ⟨b, o + k * 9, rfl, hA, fun i hi => ?_⟩⟩
    obtain rfl : i = 0 := by simpa using hi
    obtain ⟨bv, g1, g2, g3⟩ := h3 k hk
    exact ⟨bv, g1, fun j hj => by rw [Nat.zero_mul, Nat.add_zero]; exact g2 j hj, g3⟩
end Go.Proofs.YtgokenbojppnhaaDoor
namespace Go.Proofs.YtgokenbojppnhaaDoor
set_option maxRecDepth 100000 in
theorem defs_open {H : Type} {enc : TypeId × Value → H} {w : World} {base : Nat} {v : Value} {d : DataW H} {p : List MemPlace}
    (hv : Value.okWide Tryd.prog w .any base 22 v) (h : DataW.Trod enc Tryd.prog w 0 (fun _ => true) true 22 v d p) :
    (∃ a cap, v = .slice a 0 cap) ∨ ∃ b o len cap, v = .slice (some ⟨b, o, none⟩) len cap ∧ 0 < len ∧ len ≤ 9223372036854775807 ∧
      ∀ k, k < len → ∃ n d iv lv, w.cell? ⟨b, o + k * 3, none⟩ = some iv ∧ w.cell? ⟨b, o + k * 3 + 1, none⟩ = some lv ∧ w.cell? ⟨b, o + k * 3 + 2, none⟩ = some (.int .i64 d.loss) ∧ DefAt (fun b => b < w.heap.size) n w (.agg #[iv, lv, .int .i64 d.loss]) d := by
  rcases slice_open (C := 3) Tryd.underlying22 (by kernel_rfl) (by omega) hv h with h | ⟨b, o, len, cap, rfl, h0, h1, hx⟩
  · exact .inl h
  · refine .inr ⟨b, o, len, cap, rfl, h0, h1, fun k hk => ?_⟩
    obtain ⟨cs, m, y, hc, hy⟩ := hx k hk
    obtain ⟨n, v, d, iv, lv, rfl, rfl, hd⟩ := trod_def hy
    exact ⟨n, d, iv, lv, hc 0 _ rfl, hc 1 _ rfl, hc 2 _ rfl, hd⟩
end Go.Proofs.YtgokenbojppnhaaDoor
