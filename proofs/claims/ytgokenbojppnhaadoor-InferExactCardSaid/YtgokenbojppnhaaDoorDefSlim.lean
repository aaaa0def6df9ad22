/- ratchetlaw26.Weight and Heavy: how many layers there are; nothing is written. ratchetlaw26.Heavy: is a definition more than is played? Layers in new memory: CopyLayers, CopyLayer. A definition that is not heavy has short lists of layers. -/
import Derived.Test.YtgokenbojppnhaaDoorDefGood
import Derived.Test.YtgokenbojppnhaaDoorDefPrint3
import Derived.Test.YtgokenbojppnhaaDoorDefText
import Derived.Test.YtgokenbojppnhaaDoorEqLay
import Derived.Test.YtgokenbojppnhaaDoorClones
import Derived.Test.YtgokenbojppnhaaDoorDTexts
import Derived.Test.YtgokenbojppnhaaDoorGb
import Derived.Maps.AppendAt
namespace Go.Proofs.YtgokenbojppnhaaDoor
open Go.RowKit
mutual
def Lay.weigh (deep n : Nat) : Lay → Nat
  | .mk _ b => if 12 < deep + 1 then 1000 else weighS (deep + 1) (n + 1) b
def weighS (deep n : Nat) : List Lay → Nat
  | [] => n
  | l :: ls => if n < 1000 then weighS deep (l.weigh deep n) ls else n
end
def weightS (deep n : Nat) (L : List Lay) : Nat := if 12 < deep then 1000 else weighS deep n L
theorem weigh_eq (deep n : Nat) (l : Lay) : l.weigh deep n = weightS (deep + 1) (n + 1) l.b := by
  cases l with
  | mk f b => rfl
mutual
theorem weigh_le : ∀ (l : Lay) {deep n : Nat}, n < 1000 → l.weigh deep n ≤ 1000
  | .mk f b, deep, n, h => by
    rw [Lay.weigh]
    split
    · omega
    · exact weighs_le b (by omega)
theorem weighs_le : ∀ (L : List Lay) {deep n : Nat}, n ≤ 1000 → weighS deep n L ≤ 1000
  | [], deep, n, h => by rw [weighS]; exact h
  | l :: ls, deep, n, h => by
    rw [weighS]
    split
    · rename_i h1
      exact weighs_le ls (weigh_le l h1)
    · exact h
end
theorem weight_le {L : List Lay} {deep n : Nat} (h : n ≤ 1000) : weightS deep n L ≤ 1000 := by
  unfold weightS
  split
  · omega
  · exact weighs_le L h
def WeightOk (m : Nat) : Prop := ∀ (A : Nat → Prop) (v : Value) (L : List Lay) (n deep : Nat) (w : World), LaysAt A w m v L → (∀ b, A b → b < w.heap.size) → n ≤ 1000 → deep ≤ 13 →
  Calls Tryd.prog 17 #[v, .int .i64 n, .int .i64 deep] w fun e w' => e = .returned (.int .i64 (weightS deep n L)) ∧ Ext w w'
set_option maxHeartbeats 4000000 in
set_option maxRecDepth 100000 in
theorem weight_step (m : Nat) (IH : ∀ k, m = k + 1 → WeightOk k) : WeightOk m := by
  intro A v L n deep w hL hA hn hd
  obtain ⟨a, c, rfl⟩ := hL.form
  have HL := Lib.hid hL
  have HA := Lib.hid hA
  have IH' := Lib.hid IH
  have hlen : L.length ≤ maxLen := by
    cases m with
    | zero => rw [hL.1]; simp
    | succ m => obtain ⟨_, _, h, h1, _⟩ := hL; exact h1
  have hbl : L.length ≤ 9223372036854775807 := by unfold maxLen at hlen; omega
  clear hL hA IH hlen
  rcases Nat.lt_or_ge 12 deep with h12 | h12
  · have hz : (12 : Int) < (deep : Int) := by omega
    have E : weightS deep n L = 1000 := by unfold weightS; rw [if_pos h12]
    rw [E]
    clear E HL HA IH'
    go_enter Tryd.func17, Tryd.ntmps17
    go_wp2_with fail
    go_ret
    exact ⟨rfl, Ext.refl _⟩
  · have hz : ¬ (12 : Int) < (deep : Int) := by omega
    obtain ⟨T, hT⟩ : ∃ T, weightS deep n L = T := ⟨_, rfl⟩
    have hT2 : weighS deep n L = T := by rw [← hT]; unfold weightS; rw [if_neg (by omega)]
    rw [hT]
    have HT := Lib.hid hT2
    clear hT hT2
    go_enter Tryd.func17, Tryd.ntmps17
    go_wp2_with fail
    go_loopw [1, 7] (fun x i wr => ∃ k nn : Nat, k ≤ L.length ∧ nn ≤ 1000 ∧ i = .int .i64 k ∧ x = .int .i64 nn ∧ weighS deep nn (L.drop k) = T ∧ Ext w wr) (fun _ i _ => L.length - (intOf i).toNat)
    case atStart => exact ⟨0, n, Nat.zero_le _, hn, rfl, rfl, HT.out, Ext.refl _⟩
    case round =>
      obtain ⟨k, nn, hk, hnn, rfl, rfl, hw, hx⟩ := hrel
      have HX := Lib.hid hx
      have zs := hx.size
      clear hx HT
      rcases Nat.lt_or_ge k L.length with hlt | hge
      · have hlz : (k : Int) < (L.length : Int) := by omega
        rw [List.drop_eq_getElem_cons hlt, weighS] at hw
        have HA1 := Lib.hid (fun b hb => Nat.lt_of_lt_of_le (HA.out b hb) zs)
        have HL1 := Lib.hid (HL.out.ext HX.out)
        cases m with
        | zero => have := HL.out.1; rw [this] at hlt; simp at hlt
        | succ m =>
          obtain ⟨a', c', e, h1, h2⟩ := HL1.out
          obtain ⟨b, o, rfl, hAb, hel⟩ := h2 (by rintro rfl; simp at hlt)
          cases e
          obtain ⟨bv, ⟨ba, bn, bc, rfl⟩, hc, hb⟩ := hel k hlt
          have c8 : wr.cell? ⟨b, o + k * 9 + 8, none⟩ = some (.slice ba bn bc) := hc 8 (by omega)
          rcases Nat.lt_or_ge nn 1000 with hlt2 | hge2
          · have hnz : (nn : Int) < 1000 := by omega
            rw [if_pos hlt2, weigh_eq] at hw
            have w1 : IntKind.i64.wrap ((nn : Int) + 1) = ((nn + 1 : Nat) : Int) := by rw [IntKind.wrap_i64]; omega
            have w2 : IntKind.i64.wrap ((deep : Int) + 1) = ((deep + 1 : Nat) : Int) := by rw [IntKind.wrap_i64]; omega
            have CA := Lib.hid (IH'.out m rfl (fun b => b < wr.heap.size) (.slice ba bn bc) L[k].b (nn + 1) (deep + 1) wr (hb.mono HA1.out) (fun _ h => h) (by omega) (by omega))
            have HW := Lib.hid hw
            clear hel hc hb h2 HL1 HA1 IH' hw
            go_wp2_with fail
            refine CA.out.mono ?_
            rintro e w3 ⟨rfl, x3⟩
            have X3 := Lib.hid (HX.out.tr x3)
            obtain ⟨n3, hn3⟩ : ∃ n3, weightS (deep + 1) (nn + 1) L[k].b = n3 := ⟨_, rfl⟩
            have l3 : n3 ≤ 1000 := by rw [← hn3]; exact weight_le (by omega)
            rw [hn3] at HW ⊢
            clear CA hn3 x3 HL HA c8
            go_wp2_with fail
            exact ⟨⟨k + 1, n3, by omega, l3, by go_num, rfl, HW.out, X3.out⟩, by simp [intOf]; omega⟩
          · have hnz : ¬ (nn : Int) < 1000 := by omega
            rw [if_neg (by omega)] at hw
            subst hw
            clear hel hc hb h2 HL1 HA1 HL HA IH' c8
            go_wp2_with fail
            go_ret
            exact ⟨rfl, HX.out⟩
      · have hlz : ¬ (k : Int) < (L.length : Int) := by omega
        rw [List.drop_eq_nil_of_le hge, weighS] at hw
        subst hw
        clear HL HA IH'
        go_wp2_with fail
        go_ret
        exact ⟨rfl, HX.out⟩
theorem weight_any : ∀ n, WeightOk n
  | 0 => weight_step 0 (fun _ h => by omega)
  | n + 1 => weight_step (n + 1) (fun m h => by
    have e : m = n := by omega
    rw [e]; exact weight_any n)
end Go.Proofs.YtgokenbojppnhaaDoor
namespace Go.Proofs.YtgokenbojppnhaaDoor
open Go.RowKit
def heavyS (d : DefL) : Bool := decide (10 < d.input.length) || decide (200 < weightS 0 0 d.layers)
set_option maxHeartbeats 4000000 in
set_option maxRecDepth 100000 in
theorem heavy_any {A : Nat → Prop} {n : Nat} {w : World} {v : Value} {d : DefL} (h : DefAt A n w v d) :
    Calls Tryd.prog 6 #[v] w fun e w' => e = .returned (.bool (heavyS d)) ∧ Ext w w' := by
  obtain ⟨a1, c1, a2, c2, rfl, hi, hl⟩ := h.is
  have HB := Lib.hid h.below
  have HL := Lib.hid hl
  obtain ⟨a1', c1', e1, -, -, hc⟩ := hi
  cases e1
  have wl := weight_le (L := d.layers) (deep := 0) (n := 0) (by omega)
  have CA := Lib.hid (fun (u : World) (x : Ext w u) => weight_any n A (.slice a2 d.layers.length c2) d.layers 0 0 u (HL.out.ext x) (fun b hb => Nat.lt_of_lt_of_le (HB.out b hb) x.size) (by omega) (by omega))
  obtain ⟨T, hT⟩ : ∃ T, weightS 0 0 d.layers = T := ⟨_, rfl⟩
  have hS : heavyS d = (decide (10 < d.input.length) || decide (200 < T)) := by unfold heavyS; rw [hT]
  rw [hS]
  rw [hT] at wl CA
  clear hl hc hS h hT HB HL
  by_cases hb : 10 < d.input.length
  · have z : (10 : Int) < (d.input.length : Int) := by omega
    rw [decide_eq_true hb, Bool.true_or]
    clear CA wl
    go_enter Tryd.func6, Tryd.ntmps6
    go_wp2_with fail
    go_ret
    first | exact (Ext.refl w).alloc _ | exact ⟨rfl, (Ext.refl w).alloc _⟩
  · have z : ¬ (10 : Int) < (d.input.length : Int) := by omega
    rw [decide_eq_false hb, Bool.false_or]
    obtain ⟨B, hB, z2⟩ : ∃ B, decide (200 < T) = B ∧ decide ((200 : Int) < (T : Int)) = B := ⟨_, rfl, by rcases Nat.lt_or_ge 200 T with h2 | h2 <;> simp <;> omega⟩
    rw [hB]
    clear hB
    go_enter Tryd.func6, Tryd.ntmps6
    go_wp2_with fail
    refine (CA.out _ ((Ext.refl w).alloc _)).mono ?_
    rintro e w2 ⟨rfl, x2⟩
    have X2 := Lib.hid (((Ext.refl w).alloc (.cells #[.slice a1 d.input.length c1, .slice a2 d.layers.length c2, .int .i64 d.loss] 27)).tr x2)
    clear CA x2
    cases B with
    | true =>
      have z3 : (200 : Int) < (T : Int) := of_decide_eq_true z2
      clear z2
      go_wp2_with fail
      go_ret
      first | exact X2.out | exact ⟨rfl, X2.out⟩ | exact ⟨by simp; omega, X2.out⟩
    | false =>
      have z3 : ¬ (200 : Int) < (T : Int) := of_decide_eq_false z2
      clear z2
      go_wp2_with fail
      go_ret
      first | exact X2.out | exact ⟨rfl, X2.out⟩ | exact ⟨by simp; omega, X2.out⟩
end Go.Proofs.YtgokenbojppnhaaDoor
namespace Go.Proofs.YtgokenbojppnhaaDoor
open Go.RowKit
/-- Lists of layers of at most 1000, n deep. -/
def Slim : Nat → List Lay → Prop
  | 0, _ => True
  | n + 1, L => L.length ≤ 1000 ∧ ∀ l ∈ L, Slim n l.b
theorem MyLays.set {B s R o n : Nat} {x : Value} {w : World} {v : Value} {L : List Lay} (h : MyLays (fun b => B ≤ b ∧ b < s) w n v L) (hR : R < B) : MyLays (fun b => B ≤ b ∧ b < s) (w.setCell ⟨R, o, none⟩ x) n v L :=
  h.keep (fun _ h => h) (fun b hb _ => Below.heap_setCell _ ⟨R, o, none⟩ _ b (by show b ≠ R; have := hb.1; omega))
def CopyOk (n : Nat) : Prop := ∀ (A : Nat → Prop) (v : Value) (L : List Lay) (w : World), LaysAt A w n v L → Slim n L →
  Calls Tryd.prog 18 #[v] w fun e w' => ∃ u, e = .returned u ∧ Ext w w' ∧ MyLays (fun b => w.heap.size ≤ b ∧ b < w'.heap.size) w' n u L
set_option maxHeartbeats 2000000 in
set_option maxRecDepth 100000 in
theorem copyLayer_of (n : Nat) (IH : CopyOk n) {A : Nat → Prop} {f : LayF} {bv : Value} {L : List Lay} {w : World} (h : LaysAt A w n bv L) (hs : Slim n L) :
    Calls Tryd.prog 25 #[.agg (layA f bv)] w fun e w' => ∃ u, e = .returned (.agg (layA f u)) ∧ Ext w w' ∧ MyLays (fun b => w.heap.size ≤ b ∧ b < w'.heap.size) w' n u L := by
  obtain ⟨fk, fi, fo, fs, ft, fp, fc, fh⟩ := f
  obtain ⟨a1, c1, rfl⟩ := h.form
  have CA := Lib.hid (fun u (x : Ext w u) => IH _ _ _ _ (h.ext x) hs)
  simp only [layA]
  clear h IH hs
  go_enter Tryd.func25, Tryd.ntmps25
  go_wp2_with fail; refine (CA.out _ (by repeat (first | with_reducible exact Ext.refl _ | with_reducible apply Ext.drew | with_reducible apply Ext.drewN | with_reducible apply Ext.alloc | ((with_reducible refine Ext.setCell ?_ ?_ _); rotate_left; focus (first | (simp; done) | (simp; omega) | omega)) | with_reducible refine Ext.tr ?_ x1 | with_reducible refine Ext.tr ?_ x2 | with_reducible refine Ext.tr ?_ x3 | with_reducible refine Ext.tr ?_ hx | with_reducible refine Ext.tr ?_ hext | with_reducible assumption))).mono ?_; rintro e v1 ⟨u1, rfl, x1, h1⟩; obtain ⟨c1, f1⟩ := x1.rules; have z1 := x1.size; have k1_0_0 := c1 (w.heap.size) 0 (by first | (simp; done) | (simp; omega) | omega); have q1_0_0 := f1 (w.heap.size) 0 (by first | (simp; done) | (simp; omega) | omega); have k1_0_1 := c1 (w.heap.size) 1 (by first | (simp; done) | (simp; omega) | omega); have q1_0_1 := f1 (w.heap.size) 1 (by first | (simp; done) | (simp; omega) | omega); have k1_0_2 := c1 (w.heap.size) 2 (by first | (simp; done) | (simp; omega) | omega); have q1_0_2 := f1 (w.heap.size) 2 (by first | (simp; done) | (simp; omega) | omega); have k1_0_3 := c1 (w.heap.size) 3 (by first | (simp; done) | (simp; omega) | omega); have q1_0_3 := f1 (w.heap.size) 3 (by first | (simp; done) | (simp; omega) | omega); have k1_0_4 := c1 (w.heap.size) 4 (by first | (simp; done) | (simp; omega) | omega); have q1_0_4 := f1 (w.heap.size) 4 (by first | (simp; done) | (simp; omega) | omega); have k1_0_5 := c1 (w.heap.size) 5 (by first | (simp; done) | (simp; omega) | omega); have q1_0_5 := f1 (w.heap.size) 5 (by first | (simp; done) | (simp; omega) | omega); have k1_0_6 := c1 (w.heap.size) 6 (by first | (simp; done) | (simp; omega) | omega); have q1_0_6 := f1 (w.heap.size) 6 (by first | (simp; done) | (simp; omega) | omega); have k1_0_7 := c1 (w.heap.size) 7 (by first | (simp; done) | (simp; omega) | omega); have q1_0_7 := f1 (w.heap.size) 7 (by first | (simp; done) | (simp; omega) | omega); have k1_0_8 := c1 (w.heap.size) 8 (by first | (simp; done) | (simp; omega) | omega); have q1_0_8 := f1 (w.heap.size) 8 (by first | (simp; done) | (simp; omega) | omega); have k1_1_0 := c1 (w.heap.size + 1) 0 (by first | (simp; done) | (simp; omega) | omega); have q1_1_0 := f1 (w.heap.size + 1) 0 (by first | (simp; done) | (simp; omega) | omega); have k1_1_1 := c1 (w.heap.size + 1) 1 (by first | (simp; done) | (simp; omega) | omega); have q1_1_1 := f1 (w.heap.size + 1) 1 (by first | (simp; done) | (simp; omega) | omega); have k1_1_2 := c1 (w.heap.size + 1) 2 (by first | (simp; done) | (simp; omega) | omega); have q1_1_2 := f1 (w.heap.size + 1) 2 (by first | (simp; done) | (simp; omega) | omega); have k1_1_3 := c1 (w.heap.size + 1) 3 (by first | (simp; done) | (simp; omega) | omega); have q1_1_3 := f1 (w.heap.size + 1) 3 (by first | (simp; done) | (simp; omega) | omega); have k1_1_4 := c1 (w.heap.size + 1) 4 (by first | (simp; done) | (simp; omega) | omega); have q1_1_4 := f1 (w.heap.size + 1) 4 (by first | (simp; done) | (simp; omega) | omega); have k1_1_5 := c1 (w.heap.size + 1) 5 (by first | (simp; done) | (simp; omega) | omega); have q1_1_5 := f1 (w.heap.size + 1) 5 (by first | (simp; done) | (simp; omega) | omega); have k1_1_6 := c1 (w.heap.size + 1) 6 (by first | (simp; done) | (simp; omega) | omega); have q1_1_6 := f1 (w.heap.size + 1) 6 (by first | (simp; done) | (simp; omega) | omega); have k1_1_7 := c1 (w.heap.size + 1) 7 (by first | (simp; done) | (simp; omega) | omega); have q1_1_7 := f1 (w.heap.size + 1) 7 (by first | (simp; done) | (simp; omega) | omega); have k1_1_8 := c1 (w.heap.size + 1) 8 (by first | (simp; done) | (simp; omega) | omega); have q1_1_8 := f1 (w.heap.size + 1) 8 (by first | (simp; done) | (simp; omega) | omega); have k1_2_0 := c1 (w.heap.size + 2) 0 (by first | (simp; done) | (simp; omega) | omega); have q1_2_0 := f1 (w.heap.size + 2) 0 (by first | (simp; done) | (simp; omega) | omega); have k1_2_1 := c1 (w.heap.size + 2) 1 (by first | (simp; done) | (simp; omega) | omega); have q1_2_1 := f1 (w.heap.size + 2) 1 (by first | (simp; done) | (simp; omega) | omega); have k1_2_2 := c1 (w.heap.size + 2) 2 (by first | (simp; done) | (simp; omega) | omega); have q1_2_2 := f1 (w.heap.size + 2) 2 (by first | (simp; done) | (simp; omega) | omega); have k1_2_3 := c1 (w.heap.size + 2) 3 (by first | (simp; done) | (simp; omega) | omega); have q1_2_3 := f1 (w.heap.size + 2) 3 (by first | (simp; done) | (simp; omega) | omega); have k1_2_4 := c1 (w.heap.size + 2) 4 (by first | (simp; done) | (simp; omega) | omega); have q1_2_4 := f1 (w.heap.size + 2) 4 (by first | (simp; done) | (simp; omega) | omega); have k1_2_5 := c1 (w.heap.size + 2) 5 (by first | (simp; done) | (simp; omega) | omega); have q1_2_5 := f1 (w.heap.size + 2) 5 (by first | (simp; done) | (simp; omega) | omega); have k1_2_6 := c1 (w.heap.size + 2) 6 (by first | (simp; done) | (simp; omega) | omega); have q1_2_6 := f1 (w.heap.size + 2) 6 (by first | (simp; done) | (simp; omega) | omega); have k1_2_7 := c1 (w.heap.size + 2) 7 (by first | (simp; done) | (simp; omega) | omega); have q1_2_7 := f1 (w.heap.size + 2) 7 (by first | (simp; done) | (simp; omega) | omega); have k1_2_8 := c1 (w.heap.size + 2) 8 (by first | (simp; done) | (simp; omega) | omega); have q1_2_8 := f1 (w.heap.size + 2) 8 (by first | (simp; done) | (simp; omega) | omega); have z1_0 : w.heap.size < v1.heap.size := (by (try simp at z1); omega); have z1_1 : w.heap.size + 1 < v1.heap.size := (by (try simp at z1); omega); have z1_2 : w.heap.size + 2 < v1.heap.size := (by (try simp at z1); omega); (try simp at z1); clear c1 f1; simp [go_sem, *] at k1_0_0 q1_0_0 k1_0_1 q1_0_1 k1_0_2 q1_0_2 k1_0_3 q1_0_3 k1_0_4 q1_0_4 k1_0_5 q1_0_5 k1_0_6 q1_0_6 k1_0_7 q1_0_7 k1_0_8 q1_0_8 k1_1_0 q1_1_0 k1_1_1 q1_1_1 k1_1_2 q1_1_2 k1_1_3 q1_1_3 k1_1_4 q1_1_4 k1_1_5 q1_1_5 k1_1_6 q1_1_6 k1_1_7 q1_1_7 k1_1_8 q1_1_8 k1_2_0 q1_2_0 k1_2_1 q1_2_1 k1_2_2 q1_2_2 k1_2_3 q1_2_3 k1_2_4 q1_2_4 k1_2_5 q1_2_5 k1_2_6 q1_2_6 k1_2_7 q1_2_7 k1_2_8 q1_2_8
  obtain ⟨a2, c2, rfl⟩ := h1.form
  have H1 := Lib.hid (show MyLays (fun b => w.heap.size + 1 + 1 + 1 ≤ b ∧ b < v1.heap.size) v1 n (.slice a2 L.length c2) L from h1.mono (fun b hb => ⟨by have := hb.1; simp at this; omega, hb.2⟩))
  have XW : Hid (Ext w v1) := Lib.hid (by repeat (first | with_reducible exact Ext.refl _ | with_reducible apply Ext.drew | with_reducible apply Ext.drewN | with_reducible apply Ext.alloc | ((with_reducible refine Ext.setCell ?_ ?_ _); rotate_left; focus (first | (simp; done) | (simp; omega) | omega)) | with_reducible refine Ext.tr ?_ x1 | with_reducible refine Ext.tr ?_ x2 | with_reducible refine Ext.tr ?_ x3 | with_reducible refine Ext.tr ?_ hx | with_reducible refine Ext.tr ?_ hext | with_reducible assumption))
  clear h1 CA x1
  go_wp2
  simp [bodyPost, results, Tryd.results25, go_sem, *]
  refine ⟨?_, ?_⟩
  · have xw := XW.out
    exact (by repeat (first | with_reducible exact Ext.refl _ | with_reducible apply Ext.drew | with_reducible apply Ext.drewN | with_reducible apply Ext.alloc | ((with_reducible refine Ext.setCell ?_ ?_ _); rotate_left; focus (first | (simp; done) | (simp; omega) | omega)) | with_reducible refine Ext.tr ?_ x1 | with_reducible refine Ext.tr ?_ x2 | with_reducible refine Ext.tr ?_ x3 | with_reducible refine Ext.tr ?_ hx | with_reducible refine Ext.tr ?_ hext | with_reducible assumption))
  · refine MyLays.mono (A := fun b => w.heap.size + 1 + 1 + 1 ≤ b ∧ b < v1.heap.size) ?_ (fun b hb => ⟨by have := hb.1; omega, by have := hb.2; simpa using this⟩)
    repeat (first | with_reducible exact H1.out | with_reducible refine MyLays.set ?_ (by omega))
set_option maxHeartbeats 4000000 in
set_option maxRecDepth 100000 in
theorem copyLayers_step (n : Nat) (IH : ∀ m, n = m + 1 → CopyOk m) : CopyOk n := by
  intro A v L w hL hS
  obtain ⟨a1, c1, rfl⟩ := hL.form
  cases n with
  | zero =>
    obtain ⟨rfl, -⟩ := hL
    simp only [List.length_nil]
    clear IH hS
    go_enter Tryd.func18, Tryd.ntmps18
    go_wp2_with fail
    go_loopw [3, 4] (fun l i wr => l = .slice none 0 0 ∧ i = .int .i64 0 ∧ wr = w) (fun _ _ _ => 0)
    case atStart => exact ⟨rfl, rfl, rfl⟩
    case round =>
      obtain ⟨rfl, rfl, hwr⟩ := hrel
      subst hwr
      go_wp2
      go_ret
      exact ⟨_, rfl, Ext.refl _, MyLays.nil _ _ _⟩
  | succ n =>
    obtain ⟨i0, hi0, hz0, hz1, hz2⟩ := info_parts lay_info
    obtain ⟨hlen, hel⟩ := hS
    have CL := Lib.hid (fun (f : LayF) (bv : Value) (b : List Lay) (u : World) (h : LaysAt A u n bv b) (hs : Slim n b) => copyLayer_of n (IH n rfl) (f := f) h hs)
    have H1 := Lib.hid hL
    have HE := Lib.hid hel
    clear hL IH hel
    go_enter Tryd.func18, Tryd.ntmps18
    go_wp2_with fail
    go_loopw [3, 4] (fun l i wr => ∃ k : Nat, k ≤ L.length ∧ i = .int .i64 k ∧ Ext w wr ∧ AccAt w.heap.size wr n l (L.take k)) (fun _ i _ => L.length - (intOf i).toNat)
    case atStart => exact ⟨0, Nat.zero_le _, rfl, Ext.refl _, by rw [List.take_zero]; exact AccAt.nil _ _ _⟩
    case round =>
      obtain ⟨k, hk, rfl, hext, hacc⟩ := hrel
      have htl : (L.take k).length = k := by rw [List.length_take]; omega
      obtain ⟨ua, uc, rfl⟩ := hacc.form
      rw [htl] at hacc ⊢
      have ACC := Lib.hid hacc
      have XWR := Lib.hid hext
      rcases Nat.lt_or_ge k L.length with hlt | hge
      · have hlz : (k : Int) < (L.length : Int) := by omega
        obtain ⟨_, _, e1, -, q1⟩ := H1.out
        cases e1
        obtain ⟨b1, o1, rfl, -, r1⟩ := q1 (by intro e; rw [e] at hlt; simp at hlt)
        obtain ⟨bv1, ⟨ba, bn, bc, rfl⟩, t1, s1⟩ := r1 k hlt
        obtain ⟨y0, y1, y2, y3, y4, y5, y6, y7, y8⟩ := nineE t1
        have SN0 := Lib.hid (show L.take (k + 1) = L.take k ++ [.mk L[k].f L[k].b] by
          rw [List.take_succ_eq_append_getElem hlt]
          cases L[k] with
          | mk f b => rfl)
        have CA := Lib.hid (fun u (x : Ext w u) => CL.out L[k].f _ _ u (s1.ext x) (HE.out _ (List.getElem_mem hlt)))
        simp only [layA] at CA
        clear q1 r1 t1 s1 H1 HE CL
        generalize L[k].f = f at *
        generalize L[k].b = b at *
        replace y0 := hext.cell y0
        replace y1 := hext.cell y1
        replace y2 := hext.cell y2
        replace y3 := hext.cell y3
        replace y4 := hext.cell y4
        replace y5 := hext.cell y5
        replace y6 := hext.cell y6
        replace y7 := hext.cell y7
        replace y8 := hext.cell y8
        have zb1 := cell_lt y0
        simp only at zb1
        clear hacc
        go_wp2_with fail
        refine (CA.out _ XWR.out).mono ?_
        rintro e v1 ⟨u1, rfl, x1, h1⟩
        obtain ⟨a2, c2, rfl⟩ := h1.form
        clear CA y0 y1 y2 y3 y4 y5 y6 y7 y8
        have A1 := Lib.hid (ACC.out.ext x1)
        have X1 := Lib.hid (XWR.out.tr x1)
        obtain ⟨ps, own, hps, hel⟩ := A1.out.is
        have OLD := Lib.hid (show ∀ q, (Value.slice ua k uc).ownBlock = some q → q < wr.heap.size by
          obtain ⟨ps0, own0, -, -⟩ := ACC.out.is
          exact fun q hq => (own0.lt q hq).2)
        rw [htl] at own hps
        have OWN := Lib.hid own
        have hn2 : k + 1 ≤ maxLen := by unfold maxLen; omega
        have hn3 : (k + 1) * 88 ≤ 140737488355328 := by omega
        have zsz := X1.out.size
        have zwr := XWR.out.size
        have hbase : w.heap.size ≤ (v1.alloc (.cells (layA f (.slice a2 b.length c2)) 52)).heap.size := by rw [World.size_alloc]; omega
        have hlo : ∀ q, (Value.slice ua k uc).ownBlock = some q → w.heap.size ≤ q := fun q hq => (own.lt q hq).1
        have LYB : Hid (MyLays (fun b => w.heap.size ≤ b ∧ b < v1.heap.size ∧ (Value.slice ua k uc).ownBlock ≠ some b) v1 n (.slice a2 b.length c2) b) := Lib.hid (h1.mono (fun b hb => ⟨by have := hb.1; omega, hb.2, fun e => by have := OLD.out b e; have := hb.1; omega⟩))
        have SN := Lib.hid (fun w1 v' => AccAt.snoc (w := v1) (W := v1.alloc (.cells (layA f (.slice a2 b.length c2)) 52)) (w1 := w1) (v' := v') (bv := (.slice a2 b.length c2)) (f := f) (b := b) (htl.trans hps) htl.symm hel ((Ext.refl _).alloc _))
        clear own hel hps h1 x1 A1 ACC OLD XWR
        go_wp2_with (at_builtin; refine (show Hid _ from ?_).out)
        refine Lib.hid ?_
        refine wpList_append_own_at _ rfl _ _ 25 rfl w.heap.size 52 i0 _ 9 88 Tryd.underlying25 hi0 hz0 hz1 hz2 rfl (by decide) _ _ _ rfl (own_old OWN.out ((Ext.refl _).alloc _)) ⟨v1.heap.size, 0, none⟩ 1 1 (layA f (.slice a2 b.length c2)).toList rfl rfl (newsL_1 _ _ _ _) (oneL_1 _ _ _ _) hn2 hn3 hbase ?_
        intro v' w4 hown hgrow _ hob
        have A4 := Lib.hid (SN.out w4 v' hgrow hown hob ⟨_, _, _, rfl⟩ LYB.out)
        have X4 := Lib.hid (show Ext w w4 from Ext.grown (X1.out.alloc (.cells (layA f (.slice a2 b.length c2)) 52)) hgrow hlo)
        clear SN hown hgrow hob OWN LYB
        go_wp2_with fail
        exact ⟨⟨k + 1, by omega, by go_num, X4.out, by rw [SN0.out]; exact A4.out⟩, by simp [intOf]; omega⟩
      · have hlz : ¬ (k : Int) < (L.length : Int) := by omega
        obtain rfl : k = L.length := by omega
        rw [List.take_length] at ACC
        clear H1 HE CL hacc
        go_wp2
        go_ret
        exact ⟨_, rfl, XWR.out, ACC.out.lays (by omega)⟩
end Go.Proofs.YtgokenbojppnhaaDoor
namespace Go.Proofs.YtgokenbojppnhaaDoor
open Go.RowKit
theorem own_set3 {w : World} {base b o : Nat} {e : TypeId} {v u : Value} {n : Nat} {xs : List Value} (h : w.ownsRow base e 1 v n xs) (hb : b < base) : (w.setCell ⟨b, o, none⟩ u).ownsRow base e 1 v n xs := ownsRow_setCell_below h hb _
mutual
theorem weigh_ge : ∀ (l : Lay) {deep n : Nat}, n < 1000 → n + 1 ≤ l.weigh deep n
  | .mk f b, deep, n, h => by
    rw [Lay.weigh]
    split
    · omega
    · exact weighs_ge b
theorem weighs_ge : ∀ (L : List Lay) {deep n : Nat}, n ≤ weighS deep n L
  | [], deep, n => by rw [weighS]; exact Nat.le_refl _
  | l :: ls, deep, n => by
    rw [weighS]
    split
    · rename_i h
      exact Nat.le_trans (by have := weigh_ge l (deep := deep) h; omega) (weighs_ge ls)
    · exact Nat.le_refl _
end
theorem weighs_slim : ∀ (L : List Lay) {deep n : Nat}, weighS deep n L < 1000 → L.length + n ≤ weighS deep n L ∧ ∀ l ∈ L, ∃ d m, weighS d m l.b < 1000
  | [], deep, n, h => ⟨by rw [weighS]; simp, fun l hl => by simp at hl⟩
  | l :: ls, deep, n, h => by
    rw [weighS] at h ⊢
    by_cases h1 : n < 1000
    · rw [if_pos h1] at h ⊢
      obtain ⟨i1, i2⟩ := weighs_slim ls h
      have g1 := weigh_ge l (deep := deep) h1
      have g2 := weighs_ge ls (deep := deep) (n := l.weigh deep n)
      refine ⟨by simp only [List.length_cons]; omega, fun x hx => ?_⟩
      rcases List.mem_cons.1 hx with rfl | hx
      · rw [weigh_eq] at g2
        have g3 := Nat.lt_of_le_of_lt g2 (by rw [← weigh_eq]; exact h)
        unfold weightS at g3
        split at g3
        · omega
        · exact ⟨_, _, g3⟩
      · exact i2 x hx
    · rw [if_neg h1] at h
      exact absurd h h1
theorem slim_of : ∀ (n : Nat) {L : List Lay} {d m : Nat}, weighS d m L < 1000 → Slim n L
  | 0, _, _, _, _ => trivial
  | n + 1, L, d, m, h => by
    obtain ⟨h1, h2⟩ := weighs_slim L h
    refine ⟨by omega, fun l hl => ?_⟩
    obtain ⟨d', m', h3⟩ := h2 l hl
    exact slim_of n h3
theorem heavy_slim {d : DefL} (h : heavyS d = false) (n : Nat) : Slim n d.layers ∧ d.input.length ≤ 10 := by
  unfold heavyS at h
  simp only [Bool.or_eq_false_iff, decide_eq_false_iff_not] at h
  refine ⟨?_, by omega⟩
  have h2 := h.2
  unfold weightS at h2
  exact slim_of n (d := 0) (m := 0) (by
    rw [if_neg (by omega)] at h2
    omega)
theorem MyLays.left {A : Nat → Prop} {w : World} {n : Nat} {v : Value} {L : List Lay} (h : MyLays A w n v L) : LaysAt A w n v L := h.1
theorem copyLayers_any : ∀ n, CopyOk n
  | 0 => copyLayers_step 0 (fun _ h => by omega)
  | n + 1 => copyLayers_step (n + 1) (fun m h => by
    have e : m = n := by omega
    rw [e]; exact copyLayers_any n)
set_option maxHeartbeats 2000000 in
set_option maxRecDepth 100000 in
theorem copyDef_any {A : Nat → Prop} {n : Nat} {w : World} {v : Value} {d : DefL} (h : DefAt A n w v d) (hs : Slim n d.layers) (hl : d.input.length ≤ 1000) :
    Calls Tryd.prog 8 #[v] w fun e w' => ∃ dv, e = .returned dv ∧ Ext w w' ∧ DefAt (fun b => w.heap.size ≤ b ∧ b < w'.heap.size) n w' dv d := by
  obtain ⟨a1, c1, a2, c2, rfl, hi, hly⟩ := h.is
  have CN := Lib.hid (fun u (x : Ext w u) => copyN_any (hi.ext x) (show d.input.length ≤ 1000000 by omega))
  have CA := Lib.hid (fun u (x : Ext w u) => copyLayers_any n _ _ _ _ (hly.ext x) hs)
  clear h hs hi hly
  go_enter Tryd.func8, Tryd.ntmps8
  go_wp2_with fail; refine (CN.out _ (by repeat (first | with_reducible exact Ext.refl _ | with_reducible apply Ext.drew | with_reducible apply Ext.drewN | with_reducible apply Ext.alloc | ((with_reducible refine Ext.setCell ?_ ?_ _); rotate_left; focus (first | (simp; done) | (simp; omega) | omega)) | with_reducible refine Ext.tr ?_ x1 | with_reducible refine Ext.tr ?_ x2 | with_reducible refine Ext.tr ?_ x3 | with_reducible refine Ext.tr ?_ hx | with_reducible refine Ext.tr ?_ hext | with_reducible assumption))).mono ?_; rintro e v1 ⟨s1, rfl, x1, h1⟩; obtain ⟨c1, f1⟩ := x1.rules; have z1 := x1.size; have k1_0_0 := c1 (w.heap.size) 0 (by first | (simp; done) | (simp; omega) | omega); have q1_0_0 := f1 (w.heap.size) 0 (by first | (simp; done) | (simp; omega) | omega); have k1_0_1 := c1 (w.heap.size) 1 (by first | (simp; done) | (simp; omega) | omega); have q1_0_1 := f1 (w.heap.size) 1 (by first | (simp; done) | (simp; omega) | omega); have k1_0_2 := c1 (w.heap.size) 2 (by first | (simp; done) | (simp; omega) | omega); have q1_0_2 := f1 (w.heap.size) 2 (by first | (simp; done) | (simp; omega) | omega); have k1_1_0 := c1 (w.heap.size + 1) 0 (by first | (simp; done) | (simp; omega) | omega); have q1_1_0 := f1 (w.heap.size + 1) 0 (by first | (simp; done) | (simp; omega) | omega); have k1_1_1 := c1 (w.heap.size + 1) 1 (by first | (simp; done) | (simp; omega) | omega); have q1_1_1 := f1 (w.heap.size + 1) 1 (by first | (simp; done) | (simp; omega) | omega); have k1_1_2 := c1 (w.heap.size + 1) 2 (by first | (simp; done) | (simp; omega) | omega); have q1_1_2 := f1 (w.heap.size + 1) 2 (by first | (simp; done) | (simp; omega) | omega); have k1_2_0 := c1 (w.heap.size + 2) 0 (by first | (simp; done) | (simp; omega) | omega); have q1_2_0 := f1 (w.heap.size + 2) 0 (by first | (simp; done) | (simp; omega) | omega); have k1_2_1 := c1 (w.heap.size + 2) 1 (by first | (simp; done) | (simp; omega) | omega); have q1_2_1 := f1 (w.heap.size + 2) 1 (by first | (simp; done) | (simp; omega) | omega); have k1_2_2 := c1 (w.heap.size + 2) 2 (by first | (simp; done) | (simp; omega) | omega); have q1_2_2 := f1 (w.heap.size + 2) 2 (by first | (simp; done) | (simp; omega) | omega); have z1_0 : w.heap.size < v1.heap.size := (by (try simp at z1); omega); have z1_1 : w.heap.size + 1 < v1.heap.size := (by (try simp at z1); omega); have z1_2 : w.heap.size + 2 < v1.heap.size := (by (try simp at z1); omega); (try simp at z1); clear c1 f1; simp [go_sem, *] at k1_0_0 q1_0_0 k1_0_1 q1_0_1 k1_0_2 q1_0_2 k1_1_0 q1_1_0 k1_1_1 q1_1_1 k1_1_2 q1_1_2 k1_2_0 q1_2_0 k1_2_1 q1_2_1 k1_2_2 q1_2_2
  obtain ⟨a3, c3, rfl⟩ := own_form0 h1
  have H1 := Lib.hid h1
  clear h1 CN
  go_wp2_with fail; refine (CA.out _ (by repeat (first | with_reducible exact Ext.refl _ | with_reducible apply Ext.drew | with_reducible apply Ext.drewN | with_reducible apply Ext.alloc | ((with_reducible refine Ext.setCell ?_ ?_ _); rotate_left; focus (first | (simp; done) | (simp; omega) | omega)) | with_reducible refine Ext.tr ?_ x1 | with_reducible refine Ext.tr ?_ x2 | with_reducible refine Ext.tr ?_ x3 | with_reducible refine Ext.tr ?_ hx | with_reducible refine Ext.tr ?_ hext | with_reducible assumption))).mono ?_; rintro e v2 ⟨l2, rfl, x2, h2⟩; obtain ⟨c2, f2⟩ := x2.rules; have z2 := x2.size; have k2_0_0 := c2 (w.heap.size) 0 (by first | (simp; done) | (simp; omega) | omega); have q2_0_0 := f2 (w.heap.size) 0 (by first | (simp; done) | (simp; omega) | omega); have k2_0_1 := c2 (w.heap.size) 1 (by first | (simp; done) | (simp; omega) | omega); have q2_0_1 := f2 (w.heap.size) 1 (by first | (simp; done) | (simp; omega) | omega); have k2_0_2 := c2 (w.heap.size) 2 (by first | (simp; done) | (simp; omega) | omega); have q2_0_2 := f2 (w.heap.size) 2 (by first | (simp; done) | (simp; omega) | omega); have k2_1_0 := c2 (w.heap.size + 1) 0 (by first | (simp; done) | (simp; omega) | omega); have q2_1_0 := f2 (w.heap.size + 1) 0 (by first | (simp; done) | (simp; omega) | omega); have k2_1_1 := c2 (w.heap.size + 1) 1 (by first | (simp; done) | (simp; omega) | omega); have q2_1_1 := f2 (w.heap.size + 1) 1 (by first | (simp; done) | (simp; omega) | omega); have k2_1_2 := c2 (w.heap.size + 1) 2 (by first | (simp; done) | (simp; omega) | omega); have q2_1_2 := f2 (w.heap.size + 1) 2 (by first | (simp; done) | (simp; omega) | omega); have k2_2_0 := c2 (w.heap.size + 2) 0 (by first | (simp; done) | (simp; omega) | omega); have q2_2_0 := f2 (w.heap.size + 2) 0 (by first | (simp; done) | (simp; omega) | omega); have k2_2_1 := c2 (w.heap.size + 2) 1 (by first | (simp; done) | (simp; omega) | omega); have q2_2_1 := f2 (w.heap.size + 2) 1 (by first | (simp; done) | (simp; omega) | omega); have k2_2_2 := c2 (w.heap.size + 2) 2 (by first | (simp; done) | (simp; omega) | omega); have q2_2_2 := f2 (w.heap.size + 2) 2 (by first | (simp; done) | (simp; omega) | omega); have z2_0 : w.heap.size < v2.heap.size := (by (try simp at z2); omega); have z2_1 : w.heap.size + 1 < v2.heap.size := (by (try simp at z2); omega); have z2_2 : w.heap.size + 2 < v2.heap.size := (by (try simp at z2); omega); (try simp at z2); clear c2 f2; simp [go_sem, *] at k2_0_0 q2_0_0 k2_0_1 q2_0_1 k2_0_2 q2_0_2 k2_1_0 q2_1_0 k2_1_1 q2_1_1 k2_1_2 q2_1_2 k2_2_0 q2_2_0 k2_2_1 q2_2_1 k2_2_2 q2_2_2
  obtain ⟨a4, c4, rfl⟩ := h2.form
  have XW : Hid (Ext w v2) := Lib.hid (by repeat (first | with_reducible exact Ext.refl _ | with_reducible apply Ext.drew | with_reducible apply Ext.drewN | with_reducible apply Ext.alloc | ((with_reducible refine Ext.setCell ?_ ?_ _); rotate_left; focus (first | (simp; done) | (simp; omega) | omega)) | with_reducible refine Ext.tr ?_ x1 | with_reducible refine Ext.tr ?_ x2 | with_reducible refine Ext.tr ?_ x3 | with_reducible refine Ext.tr ?_ hx | with_reducible refine Ext.tr ?_ hext | with_reducible assumption))
  have z2' : v1.heap.size ≤ v2.heap.size := by have := x2.size; simp at this; exact this
  have A1 := Lib.hid (own_old (own_set3 (b := w.heap.size + 1 + 1) (o := 0) (u := .slice a3 d.input.length c3) (own_base H1.out (base' := w.heap.size + 1 + 1 + 1) (by simp)) (by omega)) x2)
  have A2 := Lib.hid (show MyLays (fun b => w.heap.size + 1 + 1 + 1 ≤ b ∧ b < v2.heap.size) v2 n (.slice a4 d.layers.length c4) d.layers from h2.mono (fun b hb => ⟨by have := hb.1; simp at this; omega, hb.2⟩))
  clear H1 h2 CA x1 x2
  go_wp2
  simp [bodyPost, results, Tryd.results8, go_sem, *]
  refine ⟨?_, ?_⟩
  · have xw := XW.out
    exact (by repeat (first | with_reducible exact Ext.refl _ | with_reducible apply Ext.drew | with_reducible apply Ext.drewN | with_reducible apply Ext.alloc | ((with_reducible refine Ext.setCell ?_ ?_ _); rotate_left; focus (first | (simp; done) | (simp; omega) | omega)) | with_reducible refine Ext.tr ?_ x1 | with_reducible refine Ext.tr ?_ x2 | with_reducible refine Ext.tr ?_ x3 | with_reducible refine Ext.tr ?_ hx | with_reducible refine Ext.tr ?_ hext | with_reducible assumption))
  · refine ⟨⟨_, _, _, _, rfl, (RowV.of_owns (base := w.heap.size + 1 + 1 + 1) (e := 3) (n := d.input.length) ?_).ints, ?_⟩, fun b hb => by have := hb.2; simpa using this⟩
    · repeat (first | with_reducible exact A1.out | with_reducible refine own_set3 ?_ (by omega))
    · refine LaysAt.mono (A := fun b => w.heap.size + 1 + 1 + 1 ≤ b ∧ b < v2.heap.size) (MyLays.left ?_) (fun b hb => ⟨by have := hb.1; omega, by have := hb.2; simpa using this⟩)
      repeat (first | with_reducible exact A2.out | with_reducible refine MyLays.set ?_ (by omega))
end Go.Proofs.YtgokenbojppnhaaDoor
