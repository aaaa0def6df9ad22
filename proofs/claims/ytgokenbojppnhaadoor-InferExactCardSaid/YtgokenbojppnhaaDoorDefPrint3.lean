/- def.Good, Print. def.Print. -/
import Derived.Test.YtgokenbojppnhaaDoorDefPrint
import Derived.Deep.RegionHeld3
import Derived.Deep.RegionWith
namespace Go.Proofs.YtgokenbojppnhaaDoor
open Go.RowKit
theorem Blk.three' {w : World} {g : Nat} {t : TypeId} {x y z : Value} (h : Blk w g t #[x, y, z]) : w.cell? ⟨g, 0, none⟩ = some x ∧ w.cell? ⟨g, 1, none⟩ = some y ∧ w.cell? ⟨g, 2, none⟩ = some z ∧ g < w.heap.size :=
  ⟨h.cell 0, h.cell 1, h.cell 2, h.lt⟩
theorem gb_ext {w V W : World} {R : Nat} (x : Ext w V) (g : GB V W R) (h : w.heap.size ≤ R) : Ext w W :=
  ⟨g.os.trans x.os, g.tape.trans x.tape, g.output.trans x.output, Nat.le_trans x.size g.size, fun k hk => (g.block k (Nat.lt_of_lt_of_le hk x.size) (fun e => by have := Option.some.inj e; omega)).trans (x.block k hk)⟩
/-- A definition in memory. -/
structure DefAt (A : Nat → Prop) (n : Nat) (w : World) (v : Value) (d : DefL) : Prop where
  is : ∃ a1 c1 a2 c2, v = .agg #[.slice a1 d.input.length c1, .slice a2 d.layers.length c2, .int .i64 d.loss] ∧ Row .i64 w (.slice a1 d.input.length c1) d.input ∧ LaysAt A w n (.slice a2 d.layers.length c2) d.layers
  below : ∀ b, A b → b < w.heap.size
set_option maxHeartbeats 20000000 in
set_option maxRecDepth 100000 in
theorem dgood_any {A : Nat → Prop} {n : Nat} {w : World} {v : Value} {d : DefL} (h : DefAt A n w v d) :
    Calls Tryd.prog 31 #[v] w fun e w' => e = .returned (.bool (goodD d)) ∧ Ext w w' := by
  obtain ⟨a1, c1, a2, c2, rfl, hi, hl⟩ := h.is
  have HB := Lib.hid h.below
  have HL := Lib.hid hl
  obtain ⟨a1', c1', e1, -, -, hc⟩ := hi
  cases e1
  have HC := Lib.hid hc
  obtain ⟨G, hG⟩ : ∃ G, goodD d = G := ⟨_, rfl⟩
  rw [hG]
  have HG := Lib.hid hG
  unfold goodD at hG
  have HG2 := Lib.hid hG
  have GA := Lib.hid (good_all n A (.slice a2 d.layers.length c2) d.layers 0 64 (w.heap.size + 1) ((w.alloc (.cells #[.slice a1 d.input.length c1, .slice a2 d.layers.length c2, .int .i64 d.loss] 27)).alloc (.cells #[.int .i64 64] 3)) (hl.ext (((Ext.refl w).alloc _).alloc _)) (fun b hb => by have := h.below b hb; omega) (by
    have h1 := Blk.new (w.alloc (.cells #[.slice a1 d.input.length c1, .slice a2 d.layers.length c2, .int .i64 d.loss] 27)) 3 #[.int .i64 64]
    rw [World.size_alloc] at h1
    exact h1) (by omega) (by omega))
  clear h hl hc hG
  by_cases b1 : d.input.length < 1 ∨ 3 < d.input.length
  · obtain rfl : G = false := by rw [← HG2.out, decide_eq_false (by omega)]; rfl
    clear HG HG2 GA
    rcases b1 with b1 | b1
    · have z1 : (d.input.length : Int) < 1 := by omega
      clear b1
      go_enter Tryd.func31, Tryd.ntmps31
      go_wp2
      go_ret
      exact ⟨rfl, (by repeat (first | with_reducible exact Ext.refl _ | with_reducible apply Ext.drew | with_reducible apply Ext.drewN | with_reducible apply Ext.alloc | ((with_reducible refine Ext.setCell ?_ ?_ _); rotate_left; focus (first | (simp; done) | (simp; omega) | omega)) | with_reducible refine Ext.tr ?_ x1 | with_reducible refine Ext.tr ?_ x2 | with_reducible refine Ext.tr ?_ hx | with_reducible assumption))⟩
    · have z1 : ¬ (d.input.length : Int) < 1 := by omega
      have z2 : (3 : Int) < (d.input.length : Int) := by omega
      clear b1
      go_enter Tryd.func31, Tryd.ntmps31
      go_wp2
      go_ret
      exact ⟨rfl, (by repeat (first | with_reducible exact Ext.refl _ | with_reducible apply Ext.drew | with_reducible apply Ext.drewN | with_reducible apply Ext.alloc | ((with_reducible refine Ext.setCell ?_ ?_ _); rotate_left; focus (first | (simp; done) | (simp; omega) | omega)) | with_reducible refine Ext.tr ?_ x1 | with_reducible refine Ext.tr ?_ x2 | with_reducible refine Ext.tr ?_ hx | with_reducible assumption))⟩
  · have z1 : ¬ (d.input.length : Int) < 1 := by omega
    have z2 : ¬ (3 : Int) < (d.input.length : Int) := by omega
    by_cases b2 : d.loss = 1 ∨ d.loss = 2
    · have hw : ((d.loss != 1) = false) ∨ ((d.loss != 1) = true ∧ (d.loss != 2) = false) := by
        rcases b2 with h | h
        · exact .inl (by rw [h]; rfl)
        · exact .inr ⟨by rw [h]; rfl, by rw [h]; rfl⟩
      have HG3 := Lib.hid (show G = (d.input.all (fun x => decide (1 ≤ x ∧ x ≤ 4096)) && (goodS 0 64 d.layers).isSome) by rw [← HG2.out, decide_eq_true (by omega), decide_eq_true b2]; simp)
      clear HG HG2 b1 b2
      rcases hw with w1 | ⟨w1, w2⟩
      all_goals
        go_enter Tryd.func31, Tryd.ntmps31
        go_wp2_with fail
        obtain ⟨V, hV⟩ : ∃ V : World, w.alloc (.cells #[.slice a1 d.input.length c1, .slice a2 d.layers.length c2, .int .i64 d.loss] 27) = V := ⟨_, rfl⟩
        have XV : Ext w V := by rw [← hV]; exact (Ext.refl w).alloc _
        have BV : Blk V w.heap.size 27 #[.slice a1 d.input.length c1, .slice a2 d.layers.length c2, .int .i64 d.loss] := by rw [← hV]; exact Blk.new w _ _
        obtain ⟨k0, k1, k2, zk⟩ := BV.three'
        have sV : V.heap.size = w.heap.size + 1 := by rw [← hV]; simp
        have HV := Lib.hid hV
        rw [hV] at GA ⊢
        clear hV BV
        go_loopw [29] (fun c wr => ∃ j : Nat, j ≤ d.input.length ∧ c = .int .i64 j ∧ (∀ q (hq : q < d.input.length), q < j → 1 ≤ d.input[q] ∧ d.input[q] ≤ 4096) ∧ wr = V) (fun c _ => d.input.length - (intOf c).toNat)
        case atStart => exact ⟨0, Nat.zero_le _, rfl, fun q _ h => absurd h (Nat.not_lt_zero q), rfl⟩
        case round =>
          obtain ⟨j, hj, rfl, hin, hwr⟩ := hrel
          have HIN := Lib.hid hin
          clear hin
          rcases Nat.lt_or_ge j d.input.length with hlt | hge
          · have hjz : (j : Int) < (d.input.length : Int) := by omega
            obtain ⟨b0, o0, rfl, hc0⟩ := HC.out (by intro e; rw [e] at hlt; simp at hlt)
            have c0 := XV.cell (hc0 j hlt)
            rw [List.getD_eq_getElem?_getD, List.getElem?_eq_getElem hlt] at c0
            simp only [Option.getD_some] at c0
            have zc := cell_lt c0
            simp only at zc
            have BAD := Lib.hid (fun (h : ¬ (1 ≤ d.input[j] ∧ d.input[j] ≤ 4096)) => (show G = false by
              rw [HG3.out, show d.input.all (fun x => decide (1 ≤ x ∧ x ≤ 4096)) = false from List.all_eq_false.2 ⟨d.input[j], List.getElem_mem hlt, by simpa using h⟩]; rfl))
            have OKJ := Lib.hid (fun (h : 1 ≤ d.input[j] ∧ d.input[j] ≤ 4096) q (hq : q < d.input.length) (hqj : q < j + 1) => (show 1 ≤ d.input[q] ∧ d.input[q] ≤ 4096 by
              rcases Nat.lt_succ_iff_lt_or_eq.1 hqj with h' | rfl
              · exact HIN.out q hq h'
              · exact h))
            obtain ⟨x, hx⟩ : ∃ x, d.input[j] = x := ⟨_, rfl⟩
            rw [hx] at c0 BAD OKJ
            subst hwr
            clear hc0 hx
            by_cases x1 : x < 1
            · obtain rfl : G = false := BAD.out (by omega)
              clear BAD OKJ HG3 GA
              go_wp2_with fail
              go_ret
              first | exact XV | exact ⟨rfl, XV⟩
            · by_cases x2 : 4096 < x
              · obtain rfl : G = false := BAD.out (by omega)
                clear BAD OKJ HG3 GA
                go_wp2_with fail
                go_ret
                first | exact XV | exact ⟨rfl, XV⟩
              · have O2 := Lib.hid (OKJ.out ⟨by omega, by omega⟩)
                clear BAD OKJ
                go_wp2_with fail
                exact ⟨⟨j + 1, by omega, by go_num, O2.out, trivial⟩, by simp [intOf]; omega⟩
          · have hjz : ¬ (j : Int) < (d.input.length : Int) := by omega
            have HG4 := Lib.hid (show (goodS 0 64 d.layers).isSome = G by
              rw [HG3.out, show d.input.all (fun x => decide (1 ≤ x ∧ x ≤ 4096)) = true from List.all_eq_true.2 (fun y hy => by
                obtain ⟨q, hq, rfl⟩ := List.getElem_of_mem hy
                simpa using HIN.out q hq (by omega))]; rfl)
            rw [HG4.out] at GA
            subst hwr
            clear HG3 HIN HG4 HC HV
            go_wp2_with fail
            refine GA.out.mono ?_
            rintro e v2 ⟨rfl, gb, -⟩
            have XF := Lib.hid (gb_ext (XV.alloc (.cells #[.int .i64 64] 3)) gb (by omega))
            clear GA gb
            go_wp2_with fail
            go_ret
            exact ⟨rfl, XF.out⟩
    · have w1 : (d.loss != 1) = true := by rw [bne, beq_eq_false_iff_ne.2 (fun h => b2 (.inl h))]; rfl
      have w2 : (d.loss != 2) = true := by rw [bne, beq_eq_false_iff_ne.2 (fun h => b2 (.inr h))]; rfl
      obtain rfl : G = false := by rw [← HG2.out, decide_eq_false b2]; simp
      clear HG HG2 GA b1 b2
      go_enter Tryd.func31, Tryd.ntmps31
      go_wp2
      go_ret
      exact ⟨rfl, (by repeat (first | with_reducible exact Ext.refl _ | with_reducible apply Ext.drew | with_reducible apply Ext.drewN | with_reducible apply Ext.alloc | ((with_reducible refine Ext.setCell ?_ ?_ _); rotate_left; focus (first | (simp; done) | (simp; omega) | omega)) | with_reducible refine Ext.tr ?_ x1 | with_reducible refine Ext.tr ?_ x2 | with_reducible refine Ext.tr ?_ hx | with_reducible assumption))⟩
end Go.Proofs.YtgokenbojppnhaaDoor
namespace Go.Proofs.YtgokenbojppnhaaDoor
open Go.RowKit
attribute [local go_sem ↓] Go.wp_at_zero Go.wp_at_succ
theorem DefAt.ext {A : Nat → Prop} {n : Nat} {w w' : World} {v : Value} {d : DefL} (h : DefAt A n w v d) (x : Ext w w') : DefAt A n w' v d := by
  obtain ⟨a1, c1, a2, c2, rfl, h1, h2⟩ := h.is
  exact ⟨⟨a1, c1, a2, c2, rfl, h1.ext x, h2.ext x⟩, fun b hb => Nat.lt_of_lt_of_le (h.below b hb) x.size⟩
def PrintPost (w : World) (d : DefL) (e : Ending) (w' : World) : Prop :=
  e = .returned (.tuple #[.string (ba (if goodD d then printS d else [])), .int .i64 (if goodD d then 0 else 1)]) ∧ Ext w w'
theorem good_parts {d : DefL} (h : goodD d = true) : 1 ≤ d.input.length ∧ d.input.length ≤ 3 ∧ (d.loss = 1 ∨ d.loss = 2) ∧ (∀ x ∈ d.input, 1 ≤ x ∧ x ≤ 4096) ∧ ∃ l', goodS 0 64 d.layers = some l' := by
  unfold goodD at h
  simp only [Bool.and_eq_true, decide_eq_true_eq] at h
  obtain ⟨⟨⟨h1, h2⟩, h3⟩, h4⟩ := h
  exact ⟨h1.1, h1.2, h2, fun x hx => by simpa using List.all_eq_true.1 h3 x hx, Option.isSome_iff_exists.1 h4⟩
end Go.Proofs.YtgokenbojppnhaaDoor
