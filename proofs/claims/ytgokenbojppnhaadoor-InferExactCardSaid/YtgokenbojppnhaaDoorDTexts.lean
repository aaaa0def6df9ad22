/- A slice of slices of bytes, opened to its rows. DefTexts: the walk. -/
import Derived.Test.YtgokenbojppnhaaDoorFieldT
import Derived.Test.YtgokenbojppnhaaDoorDefParse
import Derived.Test.YtgokenbojppnhaaDoorDefPrint3
import Derived.OpenShut
import Derived.Maps.AppendAt
import Derived.Lib.SlBytesConst
namespace Go.Proofs.YtgokenbojppnhaaDoor
open Go.RowKit Go.WideShapes Go.ChangeShapes Go.Deep
theorem u8_wf {x : Int} (h : (Lit.int .u8 x).wf = true) : 0 ≤ x ∧ x ≤ 255 := by
  simp [Lit.wf, IntKind.min, IntKind.max, IntKind.signed, IntKind.bits] at h
  exact ⟨by omega, by omega⟩
/-- Numbers from 0 to 255, as bytes. -/
def bytesOf (l : List Int) : Bs := l.map (fun x => UInt8.ofNat x.toNat)
theorem bytesOf_len (l : List Int) : (bytesOf l).length = l.length := by simp [bytesOf]
theorem byte_of {x : Int} (h : 0 ≤ x ∧ x ≤ 255) : ((UInt8.ofNat x.toNat).toNat : Int) = x := by
  simp; omega
theorem bytes_row {P : Program} {H : Type} {enc : TypeId × Value → H} {w : World} {t e : TypeId} {n : Nat} {cs : List Value} {x : DataW H × List MemPlace} (hs : P.underlying t = some (.slice e)) (he : P.underlying e = some (.int .u8)) (hc : P.cellsOf e = 1)
    (hy : DataW.trod enc P w 0 (fun _ => true) true n t cs = some x) : ∃ v b, cs = [v] ∧ RowV w v (bytesV b) := by
  rcases open_ints hs he hc hy with ⟨hcs, _⟩ | ⟨a, len, cap, zs, hcs, _, hl, hm, hz, _, hcell, hwz⟩
  · exact ⟨_, [], hcs, ⟨none, 0, rfl, by simp [bytesV], by simp [maxLen], fun h => absurd rfl h⟩⟩
  · refine ⟨_, bytesOf (zs.take len), hcs, ?_⟩
    have hle : len ≤ zs.length := by rw [hz]; split <;> omega
    have hlen : (bytesV (bytesOf (zs.take len))).length = len := by simp [bytesV, bytesOf]; omega
    refine ⟨some a, cap, by rw [hlen], by omega, hm, fun hne => ?_⟩
    have hp : 0 < len := by
      rcases Nat.eq_zero_or_pos len with h0 | h0
      · subst h0; simp [bytesV, bytesOf] at hne
      · exact h0
    have hform := addr_form (hcell 0 (by omega)) rfl
    obtain ⟨ab, ao, asp⟩ := a
    obtain rfl : asp = none := by injection hform
    refine ⟨ab, ao, rfl, fun i hi => ?_⟩
    rw [hlen] at hi
    have h1 := hcell i (by omega)
    rw [add_none] at h1
    have hi2 : i < zs.length := by omega
    have hw := u8_wf (hwz zs[i] (List.getElem_mem hi2))
    rw [h1]
    simp only [bytesV, bytesOf, List.map_map, List.getElem?_map, List.getElem?_take, if_pos hi, List.getElem?_eq_getElem hi2, Option.map_some, Function.comp]
    rw [byte_of hw, List.getD_eq_getElem?_getD, List.getElem?_eq_getElem hi2]
    rfl
/-- The lists of bytes, as a world holds them. -/
def ListsB (w : World) (b o len : Nat) : Prop := ∀ k, k < len → ∃ v l, w.cell? ⟨b, o + k, none⟩ = some v ∧ RowV w v (bytesV l)
theorem ListsB.ext {w w' : World} {b o len : Nat} (h : ListsB w b o len) (x : Ext w w') : ListsB w' b o len := fun k hk => by
  obtain ⟨v, l, h1, h2⟩ := h k hk
  exact ⟨v, l, x.cell h1, h2.ext x⟩
end Go.Proofs.YtgokenbojppnhaaDoor
namespace Go.Proofs.YtgokenbojppnhaaDoor
open Go.RowKit Go.WideShapes Go.ChangeShapes
theorem bytesV_len (b : Bs) : (bytesV b).length = b.length := by simp [bytesV]
theorem u8_info : (Tryd.prog.info? 5).map (fun i => (i.zero, i.size, i.bytes)) = some (some (.int .u8 0), 1, 1) := by kernel_rfl
def DefL.zero : DefL := ⟨[], [], 0⟩
theorem RowV.ints {w : World} {v : Value} {l : List Int} (h : RowV w v (l.map (Value.int .i64))) : Row .i64 w v l := by
  obtain ⟨a, cap, rfl, h1, h2, h3⟩ := h
  have e : (l.map (Value.int .i64)).length = l.length := by simp
  rw [e] at h1 h3 ⊢
  refine ⟨a, cap, rfl, h1, h2, fun hn => ?_⟩
  obtain ⟨g, o, rfl, hc⟩ := h3 (by intro h; apply hn; exact List.map_eq_nil_iff.1 h)
  refine ⟨g, o, rfl, fun i hi => ?_⟩
  rw [hc i hi, List.getElem?_map, List.getD_eq_getElem?_getD, List.getElem?_eq_getElem hi]
  rfl
theorem DefNew.ext {base : Nat} {w w' : World} {v : Value} {d : DefL} (h : DefNew base w v d) (x : Ext w w') : DefNew base w' v d := by
  obtain ⟨iv, lv, rfl, h1, h2⟩ := h.is
  exact ⟨⟨iv, lv, rfl, own_old h1 x, (h2.ext x).mono (fun b hb => ⟨hb.1, Nat.lt_of_lt_of_le hb.2 x.size⟩)⟩⟩
def ParseT (w : World) (P : Option DefL × Nat) (e : Ending) (w' : World) : Prop :=
  ∃ dv, e = .returned (.tuple #[dv, .int .i64 (P.2 : Int), .int .i64 (if P.1.isSome then 0 else 1)]) ∧ Ext w w' ∧ DefNew w.heap.size w' dv (P.1.getD DefL.zero)
theorem zero_new (base : Nat) (w : World) : DefNew base w zeroDef DefL.zero := ⟨⟨_, _, rfl, World.ownsRow_nil _ _ _ _, MyLays.nil _ _ _⟩⟩
def wakeB : Bs := [105, 110, 112, 117, 116, 32, 50, 10, 108, 105, 110, 101, 97, 114, 32, 50, 32, 51, 10, 108, 111, 115, 115, 32, 120, 101, 110, 116, 10]
theorem wake_is : parseS wakeB = (some ⟨[2], [.mk ⟨1, 2, 3, 0, 0, 0, 0, 0⟩ []], 1⟩, 0) := by kernel_rfl
theorem DefNew.at {base : Nat} {w : World} {v : Value} {d : DefL} (h : DefNew base w v d) : DefAt (fun b => base ≤ b ∧ b < w.heap.size) 5 w v d := by
  obtain ⟨iv, lv, rfl, h1, h2⟩ := h.is
  obtain ⟨a1, c1, rfl⟩ := own_form0 h1
  obtain ⟨a2, c2, rfl⟩ := h2.form
  exact ⟨⟨a1, c1, a2, c2, rfl, (RowV.of_owns h1).ints, h2.1⟩, fun b hb => hb.2⟩
/-- What is read is told as it stood. -/
theorem parseS_text {b : Bs} {d : DefL} (h : (parseS b).1 = some d) : goodD d = true ∧ printS d = b := by
  unfold parseS at h
  split at h
  · cases h
  · obtain ⟨n, hn⟩ : ∃ n, parseP ((cutAt 10 b).dropLast.map wordsS) (restB b) = (some d, n) := ⟨_, Prod.ext h rfl⟩
    exact parse_text hn
end Go.Proofs.YtgokenbojppnhaaDoor
