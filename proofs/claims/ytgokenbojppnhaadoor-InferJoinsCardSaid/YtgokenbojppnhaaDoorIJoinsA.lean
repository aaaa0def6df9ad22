/- InferJoins: the law, of any argument. -/
import Derived.Test.YtgokenbojppnhaaDoorIJoins
namespace Go.Proofs.YtgokenbojppnhaaDoor
open Go.RowKit
set_option maxHeartbeats 100000000 in
set_option maxRecDepth 100000 in
theorem ijoins_any {H : Type} {enc : TypeId × Value → H} {w : World} {base : Nat} {v : Value} {d : DataW H} {p : List MemPlace}
    (hv : Value.okWide Tryd.prog w .any base 46 v) (h : DataW.Trod enc Tryd.prog w 0 (fun _ => true) true 46 v d p) (_ : TabW w) :
    Calls Tryd.prog 4 #[v] w fun e w' => e = .returned (.bool true) ∧ Ext w w' := by
  rcases twos_open hv h with ⟨a, cap, rfl⟩ | ⟨b, o, len, cap, rfl, h0, h1, hL⟩
  · clear hv h
    go_enter Tryd.func4, Tryd.ntmps4
    go_wp2_with fail
    go_loopw [3] (fun i wr => i = .int .i64 0 ∧ wr = w) (fun _ _ => 0)
    case atStart => exact ⟨rfl, rfl⟩
    case round =>
      obtain ⟨rfl, hwr⟩ := hrel
      subst hwr
      go_wp2_with (go_at_call 16; refine (wakes27 _).mono ?_; rintro e w' ⟨rfl, x9⟩)
      go_ret
      exact ⟨rfl, x9⟩
  · exact ijoins_walk b o len cap w h1 hL
end Go.Proofs.YtgokenbojppnhaaDoor
