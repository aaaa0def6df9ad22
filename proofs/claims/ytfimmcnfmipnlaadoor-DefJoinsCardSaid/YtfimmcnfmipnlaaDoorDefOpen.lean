/- Definitions read as data: their rows' room too. A list of definitions read as data. -/
import Derived.Test.YtfimmcnfmipnlaaDoorDefTrod
namespace Go.Proofs.YtfimmcnfmipnlaaDoor
def RoomV (v : Value) : Prop := ∀ a n c, v = .slice a n c → n ≤ c ∧ c ≤ maxLen
theorem trod_room {H : Type} {enc : TypeId × Value → H} {w : World} {fuel : Nat} {v : Value} {x : DataW H × List MemPlace} (h : DataW.trod enc Tryd.prog w 0 (fun _ => true) true fuel 24 [v] = some x) : RoomV v := by
  intro a n c hv
  subst hv
  rcases DataW.trod_slice Tryd.underlying24 h with ⟨hcs, -⟩ | ⟨a', len, cap, el, re, m, rfl, hcs, -, -, hlc, hcm, -, -, -, -⟩
  · have := (List.cons.inj hcs).1
    injection this with _ e2 e3
    subst e2 e3
    exact ⟨Nat.le_refl _, Nat.zero_le _⟩
  · have := (List.cons.inj hcs).1
    injection this with _ e2 e3
    subst e2 e3
    exact ⟨hlc, hcm⟩
set_option maxRecDepth 100000 in
theorem trod_defC {H : Type} {enc : TypeId × Value → H} {w : World} {fuel : Nat} {cs : List Value} {x : DataW H × List MemPlace} (h : DataW.trod enc Tryd.prog w 0 (fun _ => true) true fuel 26 cs = some x) :
    ∃ n d iv lv, cs = [iv, lv, .int .i64 d.loss] ∧ RoomV lv ∧ DefAt (fun b => b < w.heap.size) n w (.agg #[iv, lv, .int .i64 d.loss]) d := by
  obtain ⟨n, v, d, iv, lv, rfl, rfl, hd⟩ := trod_def h
  obtain ⟨xs, m, rfl, -, hl, hx, hf⟩ := DataW.trod_struct Tryd.underlying26 h
  have hx3 : xs.length = 3 := hx
  match xs, hx3, hf with
  | [x0, x1, x2], _, hf =>
    have h1 := hf 1 _ rfl
    change DataW.trod enc Tryd.prog w 0 (fun _ => true) true m 24 (List.take (Tryd.prog.cellsOf 24) (List.drop 1 [iv, lv, .int .i64 d.loss])) = some x1 at h1
    rw [show Tryd.prog.cellsOf 24 = 1 from by kernel_rfl] at h1
    exact ⟨n, d, iv, lv, rfl, trod_room h1, hd⟩
/-- The argument: definitions, one behind the other. -/
def DefsAtC (w : World) (b o len : Nat) : Prop := ∀ k, k < len → ∃ n d iv lv, w.cell? ⟨b, o + k * 3, none⟩ = some iv ∧ w.cell? ⟨b, o + k * 3 + 1, none⟩ = some lv ∧ w.cell? ⟨b, o + k * 3 + 2, none⟩ = some (.int .i64 d.loss) ∧ RoomV lv ∧ DefAt (fun b => b < w.heap.size) n w (.agg #[iv, lv, .int .i64 d.loss]) d
set_option maxRecDepth 100000 in
theorem defsC_open {H : Type} {enc : TypeId × Value → H} {w : World} {base : Nat} {v : Value} {d : DataW H} {p : List MemPlace}
    (hv : Value.okWide Tryd.prog w .any base 22 v) (h : DataW.Trod enc Tryd.prog w 0 (fun _ => true) true 22 v d p) :
    (∃ a cap, v = .slice a 0 cap) ∨ ∃ b o len cap, v = .slice (some ⟨b, o, none⟩) len cap ∧ 0 < len ∧ len ≤ 9223372036854775807 ∧ DefsAtC w b o len := by
  rcases slice_open (C := 3) Tryd.underlying22 (by kernel_rfl) (by omega) hv h with h | ⟨b, o, len, cap, rfl, h0, h1, hx⟩
  · exact .inl h
  · refine .inr ⟨b, o, len, cap, rfl, h0, h1, fun k hk => ?_⟩
    obtain ⟨cs, m, y, hc, hy⟩ := hx k hk
    obtain ⟨n, d, iv, lv, rfl, hr, hd⟩ := trod_defC hy
    exact ⟨n, d, iv, lv, hc 0 _ rfl, hc 1 _ rfl, hc 2 _ rfl, hr, hd⟩
theorem LaysAt.one {A : Nat → Prop} {w : World} {n b o c : Nat} {L : List Lay} (h : LaysAt A w n (.slice (some ⟨b, o, none⟩) L.length c) L) {k : Nat} (hk : k < L.length) (c' : Nat) :
    LaysAt A w n (.slice (some ⟨b, o + k * 9, none⟩) 1 c') [L[k]] := by
  cases n with
  | zero => rw [h.1] at hk; simp at hk
  | succ n =>
    obtain ⟨a, cap, e, h1, h2⟩ := h
    obtain ⟨b', o', e2, hA, h3⟩ := h2 (by rintro rfl; simp at hk)
    injection e with e3 _ _
    rw [e2] at e3
    injection e3 with e3
    injection e3 with e4 e5
    subst e4 e5
    refine ⟨_, c', rfl, by unfold maxLen; simp, fun _ => ⟨b, o + k * 9, rfl, hA, fun i hi => ?_⟩⟩
    obtain rfl : i = 0 := by simpa using hi
    obtain ⟨bv, g1, g2, g3⟩ := h3 k hk
    exact ⟨bv, g1, fun j hj => by rw [Nat.zero_mul, Nat.add_zero]; exact g2 j hj, g3⟩
end Go.Proofs.YtfimmcnfmipnlaaDoor
namespace Go.Proofs.YtfimmcnfmipnlaaDoor
set_option maxRecDepth 100000 in
theorem defs_open {H : Type} {enc : TypeId × Value → H} {w : World} {base : Nat} {v : Value} {d : DataW H} {p : List MemPlace}
    (hv : Value.okWide Tryd.prog w .any base 22 v) (h : DataW.Trod enc Tryd.prog w 0 (fun _ => true) true 22 v d p) :
    (∃ a cap, v = .slice a 0 cap) ∨ ∃ b o len cap, v = .slice (some ⟨b, o, none⟩) len cap ∧ 0 < len ∧ len ≤ 9223372036854775807 ∧
      ∀ k, k < len → ∃ n d iv lv, w.cell? ⟨b, o + k * 3, none⟩ = some iv ∧ w.cell? ⟨b, o + k * 3 + 1, none⟩ = some lv ∧ w.cell? ⟨b, o + k * 3 + 2, none⟩ = some (.int .i64 d.loss) ∧ DefAt (fun b => b < w.heap.size) n w (.agg #[iv, lv, .int .i64 d.loss]) d := by
  rcases slice_open (C := 3) Tryd.underlying22 (by kernel_rfl) (by omega) hv h with h | ⟨b, o, len, cap, rfl, h0, h1, hx⟩
  · exact .inl h
  · refine .inr ⟨b, o, len, cap, rfl, h0, h1, fun k hk => ?_⟩
    obtain ⟨cs, m, y, hc, hy⟩ := hx k hk
    obtain ⟨n, v, d, iv, lv, rfl, rfl, hd⟩ := trod_def hy
    exact ⟨n, d, iv, lv, hc 0 _ rfl, hc 1 _ rfl, hc 2 _ rfl, hd⟩
end Go.Proofs.YtfimmcnfmipnlaaDoor
