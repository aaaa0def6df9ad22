/- A list of definitions read as data. -/
import Derived.Test.YtkdfenkpfffcaaaDoorDefTrod
namespace Go.Proofs.YtkdfenkpfffcaaaDoor
set_option maxRecDepth 100000 in
theorem defs_open {H : Type} {enc : TypeId × Value → H} {w : World} {base : Nat} {v : Value} {d : DataW H} {p : List MemPlace}
    (hv : Value.okWide Tryd.prog w .any base 22 v) (h : DataW.Trod enc Tryd.prog w 0 (fun _ => true) true 22 v d p) :
    (∃ a cap, v = .slice a 0 cap) ∨ ∃ b o len cap, v = .slice (some ⟨b, o, none⟩) len cap ∧ 0 < len ∧ len ≤ 9223372036854775807 ∧
      ∀ k, k < len → ∃ n d iv lv, w.cell? ⟨b, o + k * 3, none⟩ = some iv ∧ w.cell? ⟨b, o + k * 3 + 1, none⟩ = some lv ∧ w.cell? ⟨b, o + k * 3 + 2, none⟩ = some (.int .i64 d.loss) ∧ DefAt (fun b => b < w.heap.size) n w (.agg #[iv, lv, .int .i64 d.loss]) d := by
  rcases slice_open (C := 3) Tryd.underlying22 (by kernel_rfl) (by omega) hv h with h | ⟨b, o, len, cap, rfl, h0, h1, hx⟩
  · exact .inl h
  · refine .inr ⟨b, o, len, cap, rfl, h0, h1, fun k hk => ?_⟩
    obtain ⟨cs, m, y, hc, hy⟩ := hx k hk
    obtain ⟨n, v, d, iv, lv, rfl, rfl, hd⟩ := trod_def hy
    exact ⟨n, d, iv, lv, hc 0 _ rfl, hc 1 _ rfl, hc 2 _ rfl, hd⟩
end Go.Proofs.YtkdfenkpfffcaaaDoor
