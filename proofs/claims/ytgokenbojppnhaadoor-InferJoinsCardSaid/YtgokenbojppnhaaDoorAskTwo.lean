/- The argument []ratchetlaw27.Two: an input, two lists of layers. -/
import Derived.Test.YtgokenbojppnhaaDoorDefOpen
namespace Go.Proofs.YtgokenbojppnhaaDoor
open Go.RowKit
/-- An input and two lists of layers, as a world holds them. -/
structure TwoAt (n : Nat) (w : World) (iv av bv : Value) (inp : List Int) (A B : List Lay) : Prop where
  row : Row .i64 w iv inp
  layA : LaysAt (fun b => b < w.heap.size) w n av A
  layB : LaysAt (fun b => b < w.heap.size) w n bv B
set_option maxRecDepth 100000 in
theorem trod_two {H : Type} {enc : TypeId × Value → H} {w : World} {fuel : Nat} {cs : List Value} {x : DataW H × List MemPlace} (h : DataW.trod enc Tryd.prog w 0 (fun _ => true) true fuel 48 cs = some x) :
    ∃ n iv av bv inp A B, cs = [iv, av, bv] ∧ TwoAt n w iv av bv inp A B := by
  have h' := h
  obtain ⟨xs, n, rfl, -, hl, hx, hf⟩ := DataW.trod_struct Tryd.underlying48 h
  rw [show Tryd.prog.cellsOf 48 = 3 from by kernel_rfl] at hl
  have hx3 : xs.length = 3 := hx
  match cs, hl, hf, h' with
  | [c0, c1, c2], _, hf, h' =>
    match xs, hx3, hf with
    | [x0, x1, x2], _, hf =>
      have h1 := hf 1 _ rfl
      change DataW.trod enc Tryd.prog w 0 (fun _ => true) true n 25 (List.take (Tryd.prog.cellsOf 25) (List.drop 1 [c0, c1, c2])) = some x1 at h1
      rw [show Tryd.prog.cellsOf 25 = 1 from by kernel_rfl] at h1
      have h2 := hf 2 _ rfl
      change DataW.trod enc Tryd.prog w 0 (fun _ => true) true n 25 (List.take (Tryd.prog.cellsOf 25) (List.drop 2 [c0, c1, c2])) = some x2 at h2
      rw [show Tryd.prog.cellsOf 25 = 1 from by kernel_rfl] at h2
      obtain ⟨LA, hA⟩ := trod_lays n h1
      obtain ⟨LB, hB⟩ := trod_lays n h2
      obtain ⟨v, zs, hv, hr, -⟩ := field_row Tryd.underlying48 h' 0 _ 3 .i64 rfl Tryd.underlying24 Tryd.underlying3 (by kernel_rfl) (by kernel_rfl)
      obtain rfl : c0 = v := Option.some.inj hv
      exact ⟨n, _, _, _, zs, LA, LB, rfl, ⟨hr, hA, hB⟩⟩
def TwosAt (w : World) (b o len : Nat) : Prop := ∀ k, k < len → ∃ n iv av bv inp A B, w.cell? ⟨b, o + k * 3, none⟩ = some iv ∧ w.cell? ⟨b, o + k * 3 + 1, none⟩ = some av ∧ w.cell? ⟨b, o + k * 3 + 2, none⟩ = some bv ∧ TwoAt n w iv av bv inp A B
set_option maxRecDepth 100000 in
theorem twos_open {H : Type} {enc : TypeId × Value → H} {w : World} {base : Nat} {v : Value} {d : DataW H} {p : List MemPlace}
    (hv : Value.okWide Tryd.prog w .any base 46 v) (h : DataW.Trod enc Tryd.prog w 0 (fun _ => true) true 46 v d p) :
    (∃ a cap, v = .slice a 0 cap) ∨ ∃ b o len cap, v = .slice (some ⟨b, o, none⟩) len cap ∧ 0 < len ∧ len ≤ 9223372036854775807 ∧ TwosAt w b o len := by
  rcases slice_open (C := 3) Tryd.underlying46 (by kernel_rfl) (by omega) hv h with h | ⟨b, o, len, cap, rfl, h0, h1, hx⟩
  · exact .inl h
  · refine .inr ⟨b, o, len, cap, rfl, h0, h1, fun k hk => ?_⟩
    obtain ⟨cs, m, y, hc, hy⟩ := hx k hk
    obtain ⟨n, iv, av, bv, inp, A, B, rfl, hT⟩ := trod_two hy
    exact ⟨n, iv, av, bv, inp, A, B, hc 0 _ rfl, hc 1 _ rfl, hc 2 _ rfl, hT⟩
end Go.Proofs.YtgokenbojppnhaaDoor
