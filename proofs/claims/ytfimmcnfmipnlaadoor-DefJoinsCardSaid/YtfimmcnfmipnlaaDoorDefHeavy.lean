/- ratchetlaw26.Weight and Heavy: how many layers there are; nothing is written. ratchetlaw26.Heavy: is a definition more than is played? -/
import Derived.Test.YtfimmcnfmipnlaaDoorDefGood
import Derived.Test.YtfimmcnfmipnlaaDoorDefPrint2
namespace Go.Proofs.YtfimmcnfmipnlaaDoor
open Go.RowKit
mutual
def Lay.weigh (deep n : Nat) : Lay → Nat
  | .mk _ b => if 12 < deep + 1 then 1000 else weighS (deep + 1) (n + 1) b
def weighS (deep n : Nat) : List Lay → Nat
  | [] => n
  | l :: ls => if n < 1000 then weighS deep (l.weigh deep n) ls else n
end
def weightS (deep n : Nat) (L : List Lay) : Nat := if 12 < deep then 1000 else weighS deep n L
theorem weigh_eq (deep n : Nat) (l : Lay) : l.weigh deep n = weightS (deep + 1) (n + 1) l.b := by
  cases l with
  | mk f b => rfl
mutual
theorem weigh_le : ∀ (l : Lay) {deep n : Nat}, n < 1000 → l.weigh deep n ≤ 1000
  | .mk f b, deep, n, h => by
    rw [Lay.weigh]
    split
    · omega
    · exact weighs_le b (by omega)
theorem weighs_le : ∀ (L : List Lay) {deep n : Nat}, n ≤ 1000 → weighS deep n L ≤ 1000
  | [], deep, n, h => by rw [weighS]; exact h
  | l :: ls, deep, n, h => by
    rw [weighS]
    split
    · rename_i h1
      exact weighs_le ls (weigh_le l h1)
    · exact h
end
theorem weight_le {L : List Lay} {deep n : Nat} (h : n ≤ 1000) : weightS deep n L ≤ 1000 := by
  unfold weightS
  split
  · omega
  · exact weighs_le L h
def WeightOk (m : Nat) : Prop := ∀ (A : Nat → Prop) (v : Value) (L : List Lay) (n deep : Nat) (w : World), LaysAt A w m v L → (∀ b, A b → b < w.heap.size) → n ≤ 1000 → deep ≤ 13 →
  Calls Tryd.prog 14 #[v, .int .i64 n, .int .i64 deep] w fun e w' => e = .returned (.int .i64 (weightS deep n L)) ∧ Ext w w'
set_option maxHeartbeats 4000000 in
set_option maxRecDepth 100000 in
theorem weight_step (m : Nat) (IH : ∀ k, m = k + 1 → WeightOk k) : WeightOk m := by
  intro A v L n deep w hL hA hn hd
  obtain ⟨a, c, rfl⟩ := hL.form
  have HL := Lib.hid hL
  have HA := Lib.hid hA
  have IH' := Lib.hid IH
  have hlen : L.length ≤ maxLen := by
    cases m with
    | zero => rw [hL.1]; simp
    | succ m => obtain ⟨_, _, h, h1, _⟩ := hL; exact h1
  have hbl : L.length ≤ 9223372036854775807 := by unfold maxLen at hlen; omega
  clear hL hA IH hlen
  rcases Nat.lt_or_ge 12 deep with h12 | h12
  · have hz : (12 : Int) < (deep : Int) := by omega
    have E : weightS deep n L = 1000 := by unfold weightS; rw [if_pos h12]
    rw [E]
    clear E HL HA IH'
    go_enter Tryd.func14, Tryd.ntmps14
    go_wp2_with fail
    go_ret
    exact ⟨rfl, Ext.refl _⟩
  · have hz : ¬ (12 : Int) < (deep : Int) := by omega
    obtain ⟨T, hT⟩ : ∃ T, weightS deep n L = T := ⟨_, rfl⟩
    have hT2 : weighS deep n L = T := by rw [← hT]; unfold weightS; rw [if_neg (by omega)]
    rw [hT]
    have HT := Lib.hid hT2
    clear hT hT2
    go_enter Tryd.func14, Tryd.ntmps14
    go_wp2_with fail
    go_loopw [1, 7] (fun x i wr => ∃ k nn : Nat, k ≤ L.length ∧ nn ≤ 1000 ∧ i = .int .i64 k ∧ x = .int .i64 nn ∧ weighS deep nn (L.drop k) = T ∧ Ext w wr) (fun _ i _ => L.length - (intOf i).toNat)
    case atStart => exact ⟨0, n, Nat.zero_le _, hn, rfl, rfl, HT.out, Ext.refl _⟩
    case round =>
      obtain ⟨k, nn, hk, hnn, rfl, rfl, hw, hx⟩ := hrel
      have HX := Lib.hid hx
      have zs := hx.size
      clear hx HT
      rcases Nat.lt_or_ge k L.length with hlt | hge
      · have hlz : (k : Int) < (L.length : Int) := by omega
        rw [List.drop_eq_getElem_cons hlt, weighS] at hw
        have HA1 := Lib.hid (fun b hb => Nat.lt_of_lt_of_le (HA.out b hb) zs)
        have HL1 := Lib.hid (HL.out.ext HX.out)
        cases m with
        | zero => have := HL.out.1; rw [this] at hlt; simp at hlt
        | succ m =>
          obtain ⟨a', c', e, h1, h2⟩ := HL1.out
          obtain ⟨b, o, rfl, hAb, hel⟩ := h2 (by rintro rfl; simp at hlt)
          cases e
          obtain ⟨bv, ⟨ba, bn, bc, rfl⟩, hc, hb⟩ := hel k hlt
          have c8 : wr.cell? ⟨b, o + k * 9 + 8, none⟩ = some (.slice ba bn bc) := hc 8 (by omega)
          rcases Nat.lt_or_ge nn 1000 with hlt2 | hge2
          · have hnz : (nn : Int) < 1000 := by omega
            rw [if_pos hlt2, weigh_eq] at hw
            have w1 : IntKind.i64.wrap ((nn : Int) + 1) = ((nn + 1 : Nat) : Int) := by rw [IntKind.wrap_i64]; omega
            have w2 : IntKind.i64.wrap ((deep : Int) + 1) = ((deep + 1 : Nat) : Int) := by rw [IntKind.wrap_i64]; omega
            have CA := Lib.hid (IH'.out m rfl (fun b => b < wr.heap.size) (.slice ba bn bc) L[k].b (nn + 1) (deep + 1) wr (hb.mono HA1.out) (fun _ h => h) (by omega) (by omega))
            have HW := Lib.hid hw
            clear hel hc hb h2 HL1 HA1 IH' hw
            go_wp2_with fail
            refine CA.out.mono ?_
            rintro e w3 ⟨rfl, x3⟩
            have X3 := Lib.hid (HX.out.tr x3)
            obtain ⟨n3, hn3⟩ : ∃ n3, weightS (deep + 1) (nn + 1) L[k].b = n3 := ⟨_, rfl⟩
            have l3 : n3 ≤ 1000 := by rw [← hn3]; exact weight_le (by omega)
            rw [hn3] at HW ⊢
            clear CA hn3 x3 HL HA c8
            go_wp2_with fail
            exact ⟨⟨k + 1, n3, by omega, l3, by go_num, rfl, HW.out, X3.out⟩, by simp [intOf]; omega⟩
          · have hnz : ¬ (nn : Int) < 1000 := by omega
            rw [if_neg (by omega)] at hw
            subst hw
            clear hel hc hb h2 HL1 HA1 HL HA IH' c8
            go_wp2_with fail
            go_ret
            exact ⟨rfl, HX.out⟩
      · have hlz : ¬ (k : Int) < (L.length : Int) := by omega
        rw [List.drop_eq_nil_of_le hge, weighS] at hw
        subst hw
        clear HL HA IH'
        go_wp2_with fail
        go_ret
        exact ⟨rfl, HX.out⟩
theorem weight_any : ∀ n, WeightOk n
  | 0 => weight_step 0 (fun _ h => by omega)
  | n + 1 => weight_step (n + 1) (fun m h => by
    have e : m = n := by omega
    rw [e]; exact weight_any n)
end Go.Proofs.YtfimmcnfmipnlaaDoor
namespace Go.Proofs.YtfimmcnfmipnlaaDoor
open Go.RowKit
def heavyS (d : DefL) : Bool := decide (10 < d.input.length) || decide (200 < weightS 0 0 d.layers)
set_option maxHeartbeats 4000000 in
set_option maxRecDepth 100000 in
theorem heavy_any {A : Nat → Prop} {n : Nat} {w : World} {v : Value} {d : DefL} (h : DefAt A n w v d) :
    Calls Tryd.prog 5 #[v] w fun e w' => e = .returned (.bool (heavyS d)) ∧ Ext w w' := by
  obtain ⟨a1, c1, a2, c2, rfl, hi, hl⟩ := h.is
  have HB := Lib.hid h.below
  have HL := Lib.hid hl
  obtain ⟨a1', c1', e1, -, -, hc⟩ := hi
  cases e1
  have wl := weight_le (L := d.layers) (deep := 0) (n := 0) (by omega)
  have CA := Lib.hid (fun (u : World) (x : Ext w u) => weight_any n A (.slice a2 d.layers.length c2) d.layers 0 0 u (HL.out.ext x) (fun b hb => Nat.lt_of_lt_of_le (HB.out b hb) x.size) (by omega) (by omega))
  obtain ⟨T, hT⟩ : ∃ T, weightS 0 0 d.layers = T := ⟨_, rfl⟩
  have hS : heavyS d = (decide (10 < d.input.length) || decide (200 < T)) := by unfold heavyS; rw [hT]
  rw [hS]
  rw [hT] at wl CA
  clear hl hc hS h hT HB HL
  by_cases hb : 10 < d.input.length
  · have z : (10 : Int) < (d.input.length : Int) := by omega
    rw [decide_eq_true hb, Bool.true_or]
    clear CA wl
    go_enter Tryd.func5, Tryd.ntmps5
    go_wp2_with fail
    go_ret
    first | exact (Ext.refl w).alloc _ | exact ⟨rfl, (Ext.refl w).alloc _⟩
  · have z : ¬ (10 : Int) < (d.input.length : Int) := by omega
    rw [decide_eq_false hb, Bool.false_or]
    obtain ⟨B, hB, z2⟩ : ∃ B, decide (200 < T) = B ∧ decide ((200 : Int) < (T : Int)) = B := ⟨_, rfl, by rcases Nat.lt_or_ge 200 T with h2 | h2 <;> simp <;> omega⟩
    rw [hB]
    clear hB
    go_enter Tryd.func5, Tryd.ntmps5
    go_wp2_with fail
    refine (CA.out _ ((Ext.refl w).alloc _)).mono ?_
    rintro e w2 ⟨rfl, x2⟩
    have X2 := Lib.hid (((Ext.refl w).alloc (.cells #[.slice a1 d.input.length c1, .slice a2 d.layers.length c2, .int .i64 d.loss] 26)).tr x2)
    clear CA x2
    cases B with
    | true =>
      have z3 : (200 : Int) < (T : Int) := of_decide_eq_true z2
      clear z2
      go_wp2_with fail
      go_ret
      first | exact X2.out | exact ⟨rfl, X2.out⟩ | exact ⟨by simp; omega, X2.out⟩
    | false =>
      have z3 : ¬ (200 : Int) < (T : Int) := of_decide_eq_false z2
      clear z2
      go_wp2_with fail
      go_ret
      first | exact X2.out | exact ⟨rfl, X2.out⟩ | exact ⟨by simp; omega, X2.out⟩
end Go.Proofs.YtfimmcnfmipnlaaDoor
