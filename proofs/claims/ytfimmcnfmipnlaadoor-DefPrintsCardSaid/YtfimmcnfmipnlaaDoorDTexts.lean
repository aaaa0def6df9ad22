/- A slice of slices of bytes, opened to its rows. DefTexts: the walk. -/
import Derived.Test.YtfimmcnfmipnlaaDoorFieldT
import Derived.Test.YtfimmcnfmipnlaaDoorDefParse
import Derived.Test.YtfimmcnfmipnlaaDoorDefPrint3
import Derived.OpenShut
import Derived.Maps.AppendAt
import Derived.Lib.SlBytesConst
namespace Go.Proofs.YtfimmcnfmipnlaaDoor
open Go.RowKit Go.WideShapes Go.ChangeShapes Go.Deep
theorem u8_wf {x : Int} (h : (Lit.int .u8 x).wf = true) : 0 ≤ x ∧ x ≤ 255 := by
  simp [Lit.wf, IntKind.min, IntKind.max, IntKind.signed, IntKind.bits] at h
  exact ⟨by omega, by omega⟩
/-- Numbers from 0 to 255, as bytes. -/
def bytesOf (l : List Int) : Bs := l.map (fun x => UInt8.ofNat x.toNat)
theorem bytesOf_len (l : List Int) : (bytesOf l).length = l.length := by simp [bytesOf]
theorem byte_of {x : Int} (h : 0 ≤ x ∧ x ≤ 255) : ((UInt8.ofNat x.toNat).toNat : Int) = x := by
  simp; omega
theorem bytes_row {P : Program} {H : Type} {enc : TypeId × Value → H} {w : World} {t e : TypeId} {n : Nat} {cs : List Value} {x : DataW H × List MemPlace} (hs : P.underlying t = some (.slice e)) (he : P.underlying e = some (.int .u8)) (hc : P.cellsOf e = 1)
    (hy : DataW.trod enc P w 0 (fun _ => true) true n t cs = some x) : ∃ v b, cs = [v] ∧ RowV w v (bytesV b) := by
  rcases open_ints hs he hc hy with ⟨hcs, _⟩ | ⟨a, len, cap, zs, hcs, _, hl, hm, hz, _, hcell, hwz⟩
  · exact ⟨_, [], hcs, ⟨none, 0, rfl, by simp [bytesV], by simp [maxLen], fun h => absurd rfl h⟩⟩
  · refine ⟨_, bytesOf (zs.take len), hcs, ?_⟩
    have hle : len ≤ zs.length := by rw [hz]; split <;> omega
    have hlen : (bytesV (bytesOf (zs.take len))).length = len := by simp [bytesV, bytesOf]; omega
    refine ⟨some a, cap, by rw [hlen], by omega, hm, fun hne => ?_⟩
    have hp : 0 < len := by
      rcases Nat.eq_zero_or_pos len with h0 | h0
      · subst h0; simp [bytesV, bytesOf] at hne
      · exact h0
    have hform := addr_form (hcell 0 (by omega)) rfl
    obtain ⟨ab, ao, asp⟩ := a
    obtain rfl : asp = none := by injection hform
    refine ⟨ab, ao, rfl, fun i hi => ?_⟩
    rw [hlen] at hi
    have h1 := hcell i (by omega)
    rw [add_none] at h1
    have hi2 : i < zs.length := by omega
    have hw := u8_wf (hwz zs[i] (List.getElem_mem hi2))
    rw [h1]
    simp only [bytesV, bytesOf, List.map_map, List.getElem?_map, List.getElem?_take, if_pos hi, List.getElem?_eq_getElem hi2, Option.map_some, Function.comp]
    rw [byte_of hw, List.getD_eq_getElem?_getD, List.getElem?_eq_getElem hi2]
    rfl
/-- The lists of bytes, as a world holds them. -/
def ListsB (w : World) (b o len : Nat) : Prop := ∀ k, k < len → ∃ v l, w.cell? ⟨b, o + k, none⟩ = some v ∧ RowV w v (bytesV l)
theorem ListsB.ext {w w' : World} {b o len : Nat} (h : ListsB w b o len) (x : Ext w w') : ListsB w' b o len := fun k hk => by
  obtain ⟨v, l, h1, h2⟩ := h k hk
  exact ⟨v, l, x.cell h1, h2.ext x⟩
end Go.Proofs.YtfimmcnfmipnlaaDoor
namespace Go.Proofs.YtfimmcnfmipnlaaDoor
open Go.RowKit Go.WideShapes Go.ChangeShapes
theorem bytesV_len (b : Bs) : (bytesV b).length = b.length := by simp [bytesV]
theorem u8_info : (Tryd.prog.info? 5).map (fun i => (i.zero, i.size, i.bytes)) = some (some (.int .u8 0), 1, 1) := by kernel_rfl
def DefL.zero : DefL := ⟨[], [], 0⟩
theorem RowV.ints {w : World} {v : Value} {l : List Int} (h : RowV w v (l.map (Value.int .i64))) : Row .i64 w v l := by
  obtain ⟨a, cap, rfl, h1, h2, h3⟩ := h
  have e : (l.map (Value.int .i64)).length = l.length := by simp
  rw [e] at h1 h3 ⊢
  refine ⟨a, cap, rfl, h1, h2, fun hn => ?_⟩
  obtain ⟨g, o, rfl, hc⟩ := h3 (by intro h; apply hn; exact List.map_eq_nil_iff.1 h)
  refine ⟨g, o, rfl, fun i hi => ?_⟩
  rw [hc i hi, List.getElem?_map, List.getD_eq_getElem?_getD, List.getElem?_eq_getElem hi]
  rfl
theorem num26_any (x : Int) (w : World) : Calls Tryd.prog 8 #[.int .i64 x] w fun e w' => e = .returned (.int .i64 x) ∧ w = w' := by
  go_enter Tryd.func8, Tryd.ntmps8
  go_wp2
  go_ret
  exact ⟨rfl, rfl⟩
theorem DefNew.ext {base : Nat} {w w' : World} {v : Value} {d : DefL} (h : DefNew base w v d) (x : Ext w w') : DefNew base w' v d := by
  obtain ⟨iv, lv, rfl, h1, h2⟩ := h.is
  exact ⟨⟨iv, lv, rfl, own_old h1 x, (h2.ext x).mono (fun b hb => ⟨hb.1, Nat.lt_of_lt_of_le hb.2 x.size⟩)⟩⟩
def ParseT (w : World) (P : Option DefL × Nat) (e : Ending) (w' : World) : Prop :=
  ∃ dv, e = .returned (.tuple #[dv, .int .i64 (P.2 : Int), .int .i64 (if P.1.isSome then 0 else 1)]) ∧ Ext w w' ∧ DefNew w.heap.size w' dv (P.1.getD DefL.zero)
theorem zero_new (base : Nat) (w : World) : DefNew base w zeroDef DefL.zero := ⟨⟨_, _, rfl, World.ownsRow_nil _ _ _ _, MyLays.nil _ _ _⟩⟩
theorem parseT_all {v : Value} {b : Bs} {w : World} (h : RowV w v (bytesV b)) : Calls Tryd.prog 22 #[v] w (ParseT w (parseS b)) := by
  by_cases hb : b.length ≤ 8192
  · refine (parse_any h hb).mono fun e w' hp => ?_
    obtain ⟨dv, h1, h2, h3, h4⟩ := hp
    refine ⟨dv, h1, h2, ?_⟩
    cases hp : (parseS b).1 with
    | none => rw [h3 hp]; exact zero_new _ _
    | some d => exact h4 d hp
  · have e : parseS b = (none, 0) := by unfold parseS; rw [if_pos (by omega)]
    refine (parse_big h (by omega)).mono fun e' w' hp => ?_
    obtain ⟨rfl, x⟩ := hp
    rw [e]
    exact ⟨_, rfl, x, zero_new _ _⟩
def wakeB : Bs := [105, 110, 112, 117, 116, 32, 50, 10, 108, 105, 110, 101, 97, 114, 32, 50, 32, 51, 10, 108, 111, 115, 115, 32, 120, 101, 110, 116, 10]
theorem wake_is : parseS wakeB = (some ⟨[2], [.mk ⟨1, 2, 3, 0, 0, 0, 0, 0⟩ []], 1⟩, 0) := by kernel_rfl
set_option maxHeartbeats 2000000 in
set_option maxRecDepth 100000 in
theorem wakes26 (w : World) : Calls Tryd.prog 9 #[] w fun e w' => e = .returned (.bool true) ∧ Ext w w' := by
  obtain ⟨C, hC⟩ : ∃ C : Array Value, (bytesV wakeB).toArray = C := ⟨_, rfl⟩
  have hR : RowV (w.alloc (.cells C 5 (C.size, C.size + 1))) (.slice (some ⟨w.heap.size, 0, none⟩) 29 29) (bytesV wakeB) := by
    refine ⟨_, _, rfl, by decide, by decide, fun _ => ⟨_, 0, rfl, fun i _ => ?_⟩⟩
    rw [cell_of_row _ w.heap.size (0 + i) C 5 (C.size, C.size + 1) (heap_alloc_new w _), Nat.zero_add, ← hC]
    simp
  have PA := Lib.hid (parseT_all hR)
  rw [wake_is] at PA
  have hC2 : (#[.int .u8 105, .int .u8 110, .int .u8 112, .int .u8 117, .int .u8 116, .int .u8 32, .int .u8 50, .int .u8 10, .int .u8 108, .int .u8 105, .int .u8 110, .int .u8 101, .int .u8 97, .int .u8 114, .int .u8 32, .int .u8 50, .int .u8 32, .int .u8 51, .int .u8 10, .int .u8 108, .int .u8 111, .int .u8 115, .int .u8 115, .int .u8 32, .int .u8 120, .int .u8 101, .int .u8 110, .int .u8 116, .int .u8 10] : Array Value) = C := by rw [← hC]; rfl
  have kc := fun (w : World) (C : Array Value) (n c : Nat) => Lib.run_convert_bytes_const (P := Tryd.prog) w 47 5 C n c Tryd.underlying47 Tryd.underlying5
  clear hC hR
  go_enter Tryd.func9, Tryd.ntmps9
  go_wp2_with fail
  refine PA.out.mono ?_
  rintro e w2 ⟨dv, rfl, x2, hd⟩
  obtain ⟨iv, lv, rfl, o1, m1⟩ := hd.is
  obtain ⟨a1, c1, rfl⟩ := own_form0 o1
  obtain ⟨a2, c2, hlv, -, hL⟩ := m1.1
  subst hlv
  obtain ⟨b, o, rfl, -, hc⟩ := hL (by simp)
  obtain ⟨bv, -, hc9, -⟩ := hc 0 (by simp)
  have f2 : w2.cell? ⟨b, o + 2, none⟩ = some (.int .i64 3) := hc9 2 (by omega)
  have zf := cell_lt f2
  simp only at zf
  have XW : Ext w w2 := Ext.tr ((Ext.refl w).alloc _) x2
  clear PA kc hC2 hd o1 m1 hL hc hc9 x2
  go_wp2_with (go_at_call 8; refine (num26_any _ _).mono ?_; rintro e w' ⟨rfl, rfl⟩)
  go_ret
  exact ⟨rfl, (by repeat (first | with_reducible exact Ext.refl _ | with_reducible apply Ext.drew | with_reducible apply Ext.drewN | with_reducible apply Ext.alloc | ((with_reducible refine Ext.setCell ?_ ?_ _); rotate_left; focus (first | (simp; done) | (simp; omega) | omega)) | with_reducible refine Ext.tr ?_ x2 | with_reducible assumption))⟩
theorem DefNew.at {base : Nat} {w : World} {v : Value} {d : DefL} (h : DefNew base w v d) : DefAt (fun b => base ≤ b ∧ b < w.heap.size) 5 w v d := by
  obtain ⟨iv, lv, rfl, h1, h2⟩ := h.is
  obtain ⟨a1, c1, rfl⟩ := own_form0 h1
  obtain ⟨a2, c2, rfl⟩ := h2.form
  exact ⟨⟨a1, c1, a2, c2, rfl, (RowV.of_owns h1).ints, h2.1⟩, fun b hb => hb.2⟩
/-- What is read is told as it stood. -/
theorem parseS_text {b : Bs} {d : DefL} (h : (parseS b).1 = some d) : goodD d = true ∧ printS d = b := by
  unfold parseS at h
  split at h
  · cases h
  · obtain ⟨n, hn⟩ : ∃ n, parseP ((cutAt 10 b).dropLast.map wordsS) (restB b) = (some d, n) := ⟨_, Prod.ext h rfl⟩
    exact parse_text hn
end Go.Proofs.YtfimmcnfmipnlaaDoor
