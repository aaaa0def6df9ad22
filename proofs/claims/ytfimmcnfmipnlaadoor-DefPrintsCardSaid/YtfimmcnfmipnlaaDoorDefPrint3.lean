/- def.Good, Print. def.Print. -/
import Derived.Test.YtfimmcnfmipnlaaDoorDefPrint
import Derived.Deep.RegionHeld3
import Derived.Deep.RegionWith
namespace Go.Proofs.YtfimmcnfmipnlaaDoor
open Go.RowKit
theorem text_all : ∀ n, TextOk n
  | 0 => text_step 0 (fun _ h => by omega)
  | n + 1 => text_step (n + 1) (fun m h => by
    have e : m = n := by omega
    rw [e]; exact text_all n)
theorem Blk.three' {w : World} {g : Nat} {t : TypeId} {x y z : Value} (h : Blk w g t #[x, y, z]) : w.cell? ⟨g, 0, none⟩ = some x ∧ w.cell? ⟨g, 1, none⟩ = some y ∧ w.cell? ⟨g, 2, none⟩ = some z ∧ g < w.heap.size :=
  ⟨h.cell 0, h.cell 1, h.cell 2, h.lt⟩
theorem gb_ext {w V W : World} {R : Nat} (x : Ext w V) (g : GB V W R) (h : w.heap.size ≤ R) : Ext w W :=
  ⟨g.os.trans x.os, g.tape.trans x.tape, g.output.trans x.output, Nat.le_trans x.size g.size, fun k hk => (g.block k (Nat.lt_of_lt_of_le hk x.size) (fun e => by have := Option.some.inj e; omega)).trans (x.block k hk)⟩
/-- A definition in memory. -/
structure DefAt (A : Nat → Prop) (n : Nat) (w : World) (v : Value) (d : DefL) : Prop where
  is : ∃ a1 c1 a2 c2, v = .agg #[.slice a1 d.input.length c1, .slice a2 d.layers.length c2, .int .i64 d.loss] ∧ Row .i64 w (.slice a1 d.input.length c1) d.input ∧ LaysAt A w n (.slice a2 d.layers.length c2) d.layers
  below : ∀ b, A b → b < w.heap.size
set_option maxHeartbeats 20000000 in
set_option maxRecDepth 100000 in
theorem dgood_any {A : Nat → Prop} {n : Nat} {w : World} {v : Value} {d : DefL} (h : DefAt A n w v d) :
    Calls Tryd.prog 18 #[v] w fun e w' => e = .returned (.bool (goodD d)) ∧ Ext w w' := by
  obtain ⟨a1, c1, a2, c2, rfl, hi, hl⟩ := h.is
  have HB := Lib.hid h.below
  have HL := Lib.hid hl
  obtain ⟨a1', c1', e1, -, -, hc⟩ := hi
  cases e1
  have HC := Lib.hid hc
  obtain ⟨G, hG⟩ : ∃ G, goodD d = G := ⟨_, rfl⟩
  rw [hG]
  have HG := Lib.hid hG
  unfold goodD at hG
  have HG2 := Lib.hid hG
  have GA := Lib.hid (good_all n A (.slice a2 d.layers.length c2) d.layers 0 64 (w.heap.size + 1) ((w.alloc (.cells #[.slice a1 d.input.length c1, .slice a2 d.layers.length c2, .int .i64 d.loss] 26)).alloc (.cells #[.int .i64 64] 3)) (hl.ext (((Ext.refl w).alloc _).alloc _)) (fun b hb => by have := h.below b hb; omega) (by
    have h1 := Blk.new (w.alloc (.cells #[.slice a1 d.input.length c1, .slice a2 d.layers.length c2, .int .i64 d.loss] 26)) 3 #[.int .i64 64]
    rw [World.size_alloc] at h1
    exact h1) (by omega) (by omega))
  clear h hl hc hG
  by_cases b1 : d.input.length < 1 ∨ 3 < d.input.length
  · obtain rfl : G = false := by rw [← HG2.out, decide_eq_false (by omega)]; rfl
    clear HG HG2 GA
    rcases b1 with b1 | b1
    · have z1 : (d.input.length : Int) < 1 := by omega
      clear b1
      go_enter Tryd.func18, Tryd.ntmps18
      go_wp2
      go_ret
      exact ⟨rfl, (by repeat (first | with_reducible exact Ext.refl _ | with_reducible apply Ext.drew | with_reducible apply Ext.drewN | with_reducible apply Ext.alloc | ((with_reducible refine Ext.setCell ?_ ?_ _); rotate_left; focus (first | (simp; done) | (simp; omega) | omega)) | with_reducible refine Ext.tr ?_ x1 | with_reducible refine Ext.tr ?_ x2 | with_reducible refine Ext.tr ?_ x5 | with_reducible refine Ext.tr ?_ x6 | with_reducible refine Ext.tr ?_ x9 | with_reducible refine Ext.tr ?_ hx | with_reducible assumption))⟩
    · have z1 : ¬ (d.input.length : Int) < 1 := by omega
      have z2 : (3 : Int) < (d.input.length : Int) := by omega
      clear b1
      go_enter Tryd.func18, Tryd.ntmps18
      go_wp2
      go_ret
      exact ⟨rfl, (by repeat (first | with_reducible exact Ext.refl _ | with_reducible apply Ext.drew | with_reducible apply Ext.drewN | with_reducible apply Ext.alloc | ((with_reducible refine Ext.setCell ?_ ?_ _); rotate_left; focus (first | (simp; done) | (simp; omega) | omega)) | with_reducible refine Ext.tr ?_ x1 | with_reducible refine Ext.tr ?_ x2 | with_reducible refine Ext.tr ?_ x5 | with_reducible refine Ext.tr ?_ x6 | with_reducible refine Ext.tr ?_ x9 | with_reducible refine Ext.tr ?_ hx | with_reducible assumption))⟩
  · have z1 : ¬ (d.input.length : Int) < 1 := by omega
    have z2 : ¬ (3 : Int) < (d.input.length : Int) := by omega
    by_cases b2 : d.loss = 1 ∨ d.loss = 2
    · have hw : ((d.loss != 1) = false) ∨ ((d.loss != 1) = true ∧ (d.loss != 2) = false) := by
        rcases b2 with h | h
        · exact .inl (by rw [h]; rfl)
        · exact .inr ⟨by rw [h]; rfl, by rw [h]; rfl⟩
      have HG3 := Lib.hid (show G = (d.input.all (fun x => decide (1 ≤ x ∧ x ≤ 4096)) && (goodS 0 64 d.layers).isSome) by rw [← HG2.out, decide_eq_true (by omega), decide_eq_true b2]; simp)
      clear HG HG2 b1 b2
      rcases hw with w1 | ⟨w1, w2⟩
      all_goals
        go_enter Tryd.func18, Tryd.ntmps18
        go_wp2_with fail
        obtain ⟨V, hV⟩ : ∃ V : World, w.alloc (.cells #[.slice a1 d.input.length c1, .slice a2 d.layers.length c2, .int .i64 d.loss] 26) = V := ⟨_, rfl⟩
        have XV : Ext w V := by rw [← hV]; exact (Ext.refl w).alloc _
        have BV : Blk V w.heap.size 26 #[.slice a1 d.input.length c1, .slice a2 d.layers.length c2, .int .i64 d.loss] := by rw [← hV]; exact Blk.new w _ _
        obtain ⟨k0, k1, k2, zk⟩ := BV.three'
        have sV : V.heap.size = w.heap.size + 1 := by rw [← hV]; simp
        have HV := Lib.hid hV
        rw [hV] at GA ⊢
        clear hV BV
        go_loopw [29] (fun c wr => ∃ j : Nat, j ≤ d.input.length ∧ c = .int .i64 j ∧ (∀ q (hq : q < d.input.length), q < j → 1 ≤ d.input[q] ∧ d.input[q] ≤ 4096) ∧ wr = V) (fun c _ => d.input.length - (intOf c).toNat)
        case atStart => exact ⟨0, Nat.zero_le _, rfl, fun q _ h => absurd h (Nat.not_lt_zero q), rfl⟩
        case round =>
          obtain ⟨j, hj, rfl, hin, hwr⟩ := hrel
          have HIN := Lib.hid hin
          clear hin
          rcases Nat.lt_or_ge j d.input.length with hlt | hge
          · have hjz : (j : Int) < (d.input.length : Int) := by omega
            obtain ⟨b0, o0, rfl, hc0⟩ := HC.out (by intro e; rw [e] at hlt; simp at hlt)
            have c0 := XV.cell (hc0 j hlt)
            rw [List.getD_eq_getElem?_getD, List.getElem?_eq_getElem hlt] at c0
            simp only [Option.getD_some] at c0
            have zc := cell_lt c0
            simp only at zc
            have BAD := Lib.hid (fun (h : ¬ (1 ≤ d.input[j] ∧ d.input[j] ≤ 4096)) => (show G = false by
              rw [HG3.out, show d.input.all (fun x => decide (1 ≤ x ∧ x ≤ 4096)) = false from List.all_eq_false.2 ⟨d.input[j], List.getElem_mem hlt, by simpa using h⟩]; rfl))
            have OKJ := Lib.hid (fun (h : 1 ≤ d.input[j] ∧ d.input[j] ≤ 4096) q (hq : q < d.input.length) (hqj : q < j + 1) => (show 1 ≤ d.input[q] ∧ d.input[q] ≤ 4096 by
              rcases Nat.lt_succ_iff_lt_or_eq.1 hqj with h' | rfl
              · exact HIN.out q hq h'
              · exact h))
            obtain ⟨x, hx⟩ : ∃ x, d.input[j] = x := ⟨_, rfl⟩
            rw [hx] at c0 BAD OKJ
            subst hwr
            clear hc0 hx
            by_cases x1 : x < 1
            · obtain rfl : G = false := BAD.out (by omega)
              clear BAD OKJ HG3 GA
              go_wp2_with fail
              go_ret
              first | exact XV | exact ⟨rfl, XV⟩
            · by_cases x2 : 4096 < x
              · obtain rfl : G = false := BAD.out (by omega)
                clear BAD OKJ HG3 GA
                go_wp2_with fail
                go_ret
                first | exact XV | exact ⟨rfl, XV⟩
              · have O2 := Lib.hid (OKJ.out ⟨by omega, by omega⟩)
                clear BAD OKJ
                go_wp2_with fail
                exact ⟨⟨j + 1, by omega, by go_num, O2.out, trivial⟩, by simp [intOf]; omega⟩
          · have hjz : ¬ (j : Int) < (d.input.length : Int) := by omega
            have HG4 := Lib.hid (show (goodS 0 64 d.layers).isSome = G by
              rw [HG3.out, show d.input.all (fun x => decide (1 ≤ x ∧ x ≤ 4096)) = true from List.all_eq_true.2 (fun y hy => by
                obtain ⟨q, hq, rfl⟩ := List.getElem_of_mem hy
                simpa using HIN.out q hq (by omega))]; rfl)
            rw [HG4.out] at GA
            subst hwr
            clear HG3 HIN HG4 HC HV
            go_wp2_with fail
            refine GA.out.mono ?_
            rintro e v2 ⟨rfl, gb, -⟩
            have XF := Lib.hid (gb_ext (XV.alloc (.cells #[.int .i64 64] 3)) gb (by omega))
            clear GA gb
            go_wp2_with fail
            go_ret
            exact ⟨rfl, XF.out⟩
    · have w1 : (d.loss != 1) = true := by rw [bne, beq_eq_false_iff_ne.2 (fun h => b2 (.inl h))]; rfl
      have w2 : (d.loss != 2) = true := by rw [bne, beq_eq_false_iff_ne.2 (fun h => b2 (.inr h))]; rfl
      obtain rfl : G = false := by rw [← HG2.out, decide_eq_false b2]; simp
      clear HG HG2 GA b1 b2
      go_enter Tryd.func18, Tryd.ntmps18
      go_wp2
      go_ret
      exact ⟨rfl, (by repeat (first | with_reducible exact Ext.refl _ | with_reducible apply Ext.drew | with_reducible apply Ext.drewN | with_reducible apply Ext.alloc | ((with_reducible refine Ext.setCell ?_ ?_ _); rotate_left; focus (first | (simp; done) | (simp; omega) | omega)) | with_reducible refine Ext.tr ?_ x1 | with_reducible refine Ext.tr ?_ x2 | with_reducible refine Ext.tr ?_ x5 | with_reducible refine Ext.tr ?_ x6 | with_reducible refine Ext.tr ?_ x9 | with_reducible refine Ext.tr ?_ hx | with_reducible assumption))⟩
end Go.Proofs.YtfimmcnfmipnlaaDoor
namespace Go.Proofs.YtfimmcnfmipnlaaDoor
open Go.RowKit
attribute [local go_sem ↓] Go.wp_at_zero Go.wp_at_succ
theorem losses_new (w : World) : Calls Tryd.prog 21 #[] w fun e w' => ∃ H, e = .returned (.slice (some ⟨H, 0, none⟩) 3 3) ∧ w'.cell? ⟨H, 1, none⟩ = some (.string (ba xentB)) ∧ w'.cell? ⟨H, 2, none⟩ = some (.string (ba squareB)) ∧ Ext w w' := by
  go_enter Tryd.func21, Tryd.ntmps21
  go_wp2
  go_ret
  exact ⟨_, rfl, (Blk.new w _ _).cell 1, (Blk.new w _ _).cell 2, (by repeat (first | with_reducible exact Ext.refl _ | with_reducible apply Ext.drew | with_reducible apply Ext.drewN | with_reducible apply Ext.alloc | ((with_reducible refine Ext.setCell ?_ ?_ _); rotate_left; focus (first | (simp; done) | (simp; omega) | omega)) | with_reducible refine Ext.tr ?_ x1 | with_reducible refine Ext.tr ?_ x2 | with_reducible refine Ext.tr ?_ x5 | with_reducible refine Ext.tr ?_ x6 | with_reducible refine Ext.tr ?_ x9 | with_reducible refine Ext.tr ?_ hx | with_reducible assumption))⟩
theorem DefAt.ext {A : Nat → Prop} {n : Nat} {w w' : World} {v : Value} {d : DefL} (h : DefAt A n w v d) (x : Ext w w') : DefAt A n w' v d := by
  obtain ⟨a1, c1, a2, c2, rfl, h1, h2⟩ := h.is
  exact ⟨⟨a1, c1, a2, c2, rfl, h1.ext x, h2.ext x⟩, fun b hb => Nat.lt_of_lt_of_le (h.below b hb) x.size⟩
def PrintPost (w : World) (d : DefL) (e : Ending) (w' : World) : Prop :=
  e = .returned (.tuple #[.string (ba (if goodD d then printS d else [])), .int .i64 (if goodD d then 0 else 1)]) ∧ Ext w w'
theorem good_parts {d : DefL} (h : goodD d = true) : 1 ≤ d.input.length ∧ d.input.length ≤ 3 ∧ (d.loss = 1 ∨ d.loss = 2) ∧ (∀ x ∈ d.input, 1 ≤ x ∧ x ≤ 4096) ∧ ∃ l', goodS 0 64 d.layers = some l' := by
  unfold goodD at h
  simp only [Bool.and_eq_true, decide_eq_true_eq] at h
  obtain ⟨⟨⟨h1, h2⟩, h3⟩, h4⟩ := h
  exact ⟨h1.1, h1.2, h2, fun x hx => by simpa using List.all_eq_true.1 h3 x hx, Option.isSome_iff_exists.1 h4⟩
set_option maxHeartbeats 100000000 in
set_option maxRecDepth 100000 in
theorem print_any {A : Nat → Prop} {n : Nat} {w : World} {v : Value} {d : DefL} (h : DefAt A n w v d) (hT : TabW w) :
    Calls Tryd.prog 7 #[v] w (PrintPost w d) := by
  have GO := Lib.hid (fun u (x : Ext w u) => dgood_any (h.ext x))
  have HTW := Lib.hid hT
  obtain ⟨a1, c1, a2, c2, rfl, hi, hl⟩ := h.is
  have HL := Lib.hid hl
  obtain ⟨a1', c1', e1, -, -, hc⟩ := hi
  cases e1
  have HC := Lib.hid hc
  clear h hT hl hc
  cases hg : goodD d with
  | false =>
    rw [hg] at GO
    have PP := Lib.hid (fun W (x : Ext w W) => (show PrintPost w d (.returned (.tuple #[.string ⟨#[]⟩, .int .i64 1])) W from ⟨by rw [hg]; rfl, x⟩))
    clear hg HC HL HTW
    go_enter Tryd.func7, Tryd.ntmps7
    go_wp2_with (go_at_call 18; refine (GO.out _ (by repeat (first | with_reducible exact Ext.refl _ | with_reducible apply Ext.drew | with_reducible apply Ext.drewN | with_reducible apply Ext.alloc | ((with_reducible refine Ext.setCell ?_ ?_ _); rotate_left; focus (first | (simp; done) | (simp; omega) | omega)) | with_reducible refine Ext.tr ?_ x1 | with_reducible refine Ext.tr ?_ x2 | with_reducible refine Ext.tr ?_ x5 | with_reducible refine Ext.tr ?_ x6 | with_reducible refine Ext.tr ?_ x9 | with_reducible refine Ext.tr ?_ hx | with_reducible assumption))).mono ?_; rintro e v1 ⟨rfl, x1⟩)
    (try rw [Exit.noGoto_ret])
    change bodyPost _ _ _ _ _ _
    refine bodyPost_ret (results_tmp2 rfl _ _ _) rfl ?_
    exact PP.out _ (by repeat (first | with_reducible exact Ext.refl _ | with_reducible apply Ext.drew | with_reducible apply Ext.drewN | with_reducible apply Ext.alloc | ((with_reducible refine Ext.setCell ?_ ?_ _); rotate_left; focus (first | (simp; done) | (simp; omega) | omega)) | with_reducible refine Ext.tr ?_ x1 | with_reducible refine Ext.tr ?_ x2 | with_reducible refine Ext.tr ?_ x5 | with_reducible refine Ext.tr ?_ x6 | with_reducible refine Ext.tr ?_ x9 | with_reducible refine Ext.tr ?_ hx | with_reducible assumption))
  | true =>
    rw [hg] at GO
    obtain ⟨g1, g2, g3, g4, l', g5⟩ := good_parts hg
    have PP := Lib.hid (fun Z (hZ : ba (printS d) = Z) W (x : Ext w W) => (show PrintPost w d (.returned (.tuple #[.string Z, .int .i64 0])) W from ⟨by rw [hg, ← hZ]; rfl, x⟩))
    have HGS := Lib.hid g5
    have G4 := Lib.hid g4
    have NLE := numsT_len d.input (fun x hx => by have := g4 x hx; omega)
    have TLE := texts_len d.layers g5
    clear hg g4 g5
    go_enter Tryd.func7, Tryd.ntmps7
    go_wp2_with (go_at_call 18; refine (GO.out _ (by repeat (first | with_reducible exact Ext.refl _ | with_reducible apply Ext.drew | with_reducible apply Ext.drewN | with_reducible apply Ext.alloc | ((with_reducible refine Ext.setCell ?_ ?_ _); rotate_left; focus (first | (simp; done) | (simp; omega) | omega)) | with_reducible refine Ext.tr ?_ x1 | with_reducible refine Ext.tr ?_ x2 | with_reducible refine Ext.tr ?_ x5 | with_reducible refine Ext.tr ?_ x6 | with_reducible refine Ext.tr ?_ x9 | with_reducible refine Ext.tr ?_ hx | with_reducible assumption))).mono ?_; rintro e v1 ⟨rfl, x1⟩; obtain ⟨k0, k1, k2, zk⟩ := ((Blk.new w 26 #[.slice a1 d.input.length c1, .slice a2 d.layers.length c2, .int .i64 d.loss]).ext x1).three')
    have X1 : Ext w v1 := Ext.tr ((Ext.refl w).alloc _) x1
    have BD1 := Lib.hid ((Blk.new w 26 #[.slice a1 d.input.length c1, .slice a2 d.layers.length c2, .int .i64 d.loss]).ext x1)
    clear GO x1
    go_loopw [4, 13] (fun s c wr => ∃ j : Nat, j ≤ d.input.length ∧ c = .int .i64 j ∧ s = .string (ba (inputB ++ numsT (d.input.take j))) ∧ Ext v1 wr) (fun _ c _ => d.input.length - (intOf c).toNat)
    case atStart => exact ⟨0, Nat.zero_le _, rfl, rfl, Ext.refl _⟩
    case round =>
      obtain ⟨j, hj, rfl, rfl, hex⟩ := hrel
      obtain ⟨V, rfl⟩ : ∃ V : World, V = wr := ⟨_, rfl⟩
      have XJ := Lib.hid hex
      have XV := X1.tr hex
      have NTJ : ∀ j, (numsT (d.input.take j)).length ≤ (numsT d.input).length := fun j => by
        have e : numsT d.input = numsT (d.input.take j) ++ numsT (d.input.drop j) := by
          unfold numsT
          rw [← List.flatMap_append, List.take_append_drop]
        rw [e, List.length_append]
        omega
      have NTJ1 := NTJ (j + 1)
      have NTJ0 := NTJ j
      obtain ⟨Z, hZ⟩ : ∃ Z, ba (inputB ++ numsT (d.input.take j)) = Z := ⟨_, rfl⟩
      have HZ := Lib.hid hZ
      rw [hZ]
      clear hZ NTJ
      rcases Nat.lt_or_ge j d.input.length with hlt | hge
      · have hjz : (j : Int) < (d.input.length : Int) := by omega
        obtain ⟨b0, o0, rfl, hc0⟩ := HC.out (by intro e; rw [e] at hlt; simp at hlt)
        have c0 := XV.cell (hc0 j hlt)
        rw [List.getD_eq_getElem?_getD, List.getElem?_eq_getElem hlt] at c0
        simp only [Option.getD_some] at c0
        have zc := cell_lt c0
        simp only at zc
        have TS := Lib.hid (show numsT (d.input.take (j + 1)) = numsT (d.input.take j) ++ numT d.input[j] by rw [take_sn hlt, numsT_snoc])
        have BD := G4.out _ (List.getElem_mem hlt)
        rw [TS.out, List.length_append] at NTJ1
        obtain ⟨x, hx⟩ : ∃ x, d.input[j] = x := ⟨_, rfl⟩
        rw [hx] at c0 TS BD NTJ1
        have IT := Lib.hid (itoa_any x (by omega) (by omega) (HTW.out.ext XV))
        obtain ⟨I, hI⟩ : ∃ I, ba (Lib.itoa x) = I := ⟨_, rfl⟩
        rw [hI] at IT
        obtain ⟨I1, hI1⟩ : ∃ I1, ba (numT x) = I1 := ⟨_, rfl⟩
        obtain ⟨Z2, hZ2⟩ : ∃ Z2, ba (inputB ++ numsT (d.input.take (j + 1))) = Z2 := ⟨_, rfl⟩
        have LI := itoa_len (x := x) (by omega) (by omega)
        have IL : inputB.length = 5 := rfl
        have ad1 : ∀ u : World, (Op.stringOp .add ⟨#[32]⟩ I).run Tryd.prog u = .ok (.string I1) u := add_ba (by rw [← hI, ← hI1]; exact ba_app [32] (Lib.itoa x)) (by rw [← hI, ba_size]; show 1 + _ ≤ _; omega)
        have ad2 : ∀ u : World, (Op.stringOp .add Z I1).run Tryd.prog u = .ok (.string Z2) u := add_ba (by rw [← HZ.out, ← hI1, ← hZ2, ba_app, TS.out, List.append_assoc]) (by rw [← HZ.out, ← hI1, ba_size, ba_size, List.length_append, IL]; omega)
        have HZ2 := Lib.hid hZ2
        clear hc0 hx hI hI1 hZ2 hex IL
        go_wp2_with fail
        refine IT.out.mono ?_
        rintro e w' ⟨rfl, x9⟩
        have XF := Lib.hid (XJ.out.tr x9)
        clear IT
        go_wp2_with fail
        exact ⟨⟨j + 1, by omega, by go_num, by rw [HZ2.out], XF.out⟩, by simp [intOf]; omega⟩
      · have hjz : ¬ (j : Int) < (d.input.length : Int) := by omega
        rw [List.take_of_length_le hge] at HZ
        replace k0 := hex.cell k0
        replace k1 := hex.cell k1
        replace k2 := hex.cell k2
        have BDV := Lib.hid (BD1.out.ext hex)
        have zV := BDV.out.lt
        have HLV := Lib.hid (HL.out.ext XV)
        have TBV := Lib.hid (HTW.out.ext XV)
        have IL : inputB.length = 5 := rfl
        obtain ⟨z0, hz0⟩ : ∃ z0, inputB ++ numsT d.input = z0 := ⟨_, rfl⟩
        have LZ0 : z0.length = 5 + (numsT d.input).length := by rw [← hz0, List.length_append, IL]
        obtain ⟨tx, htx⟩ : ∃ tx, textS d.layers = tx := ⟨_, rfl⟩
        rw [htx] at TLE
        rw [hz0] at HZ
        have HZ0 := Lib.hid hz0
        have HTX := Lib.hid htx
        clear hz0 htx NTJ1 NTJ0 hj hge XJ G4
        rcases g3 with hloss | hloss
        · have WRD := Lib.hid (show (if d.loss = 1 then xentB else squareB) = xentB by rw [hloss]; rfl)
          have PS := Lib.hid (show printS d = z0 ++ [10] ++ tx ++ lossB ++ [32] ++ xentB ++ [10] by unfold printS; rw [WRD.out, HZ0.out, HTX.out])
          obtain ⟨Z1, hZ1⟩ : ∃ Z1, ba (z0 ++ [10]) = Z1 := ⟨_, rfl⟩
          obtain ⟨T, hT⟩ : ∃ T, ba tx = T := ⟨_, rfl⟩
          obtain ⟨Z2, hZ2⟩ : ∃ Z2, ba (z0 ++ [10] ++ tx) = Z2 := ⟨_, rfl⟩
          obtain ⟨Z3, hZ3⟩ : ∃ Z3, ba (z0 ++ [10] ++ tx ++ (lossB ++ [32])) = Z3 := ⟨_, rfl⟩
          obtain ⟨W, hW⟩ : ∃ W, ba xentB = W := ⟨_, rfl⟩
          obtain ⟨Z4, hZ4⟩ : ∃ Z4, ba (z0 ++ [10] ++ tx ++ (lossB ++ [32]) ++ xentB) = Z4 := ⟨_, rfl⟩
          obtain ⟨Z5, hZ5⟩ : ∃ Z5, ba (printS d) = Z5 := ⟨_, rfl⟩
          have ad1 : ∀ u : World, (Op.stringOp .add Z ⟨#[10]⟩).run Tryd.prog u = .ok (.string Z1) u := add_ba (by rw [← HZ.out, ← hZ1]; exact ba_app _ [10]) (by rw [← HZ.out, ba_size]; show _ + 1 ≤ _; omega)
          have ad2 : ∀ u : World, (Op.stringOp .add Z1 T).run Tryd.prog u = .ok (.string Z2) u := add_ba (by rw [← hZ1, ← hT, ← hZ2]; exact ba_app _ _) (by rw [← hZ1, ← hT, ba_size, ba_size, List.length_append]; show _ + 1 + _ ≤ _; omega)
          have ad3 : ∀ u : World, (Op.stringOp .add Z2 ⟨#[108, 111, 115, 115, 32]⟩).run Tryd.prog u = .ok (.string Z3) u := add_ba (by rw [← hZ2, ← hZ3]; exact ba_app _ (lossB ++ [32])) (by rw [← hZ2, ba_size, List.length_append, List.length_append]; show _ + 1 + _ + 5 ≤ _; omega)
          have ad4 : ∀ u : World, (Op.stringOp .add Z3 W).run Tryd.prog u = .ok (.string Z4) u := add_ba (by rw [← hZ3, ← hW, ← hZ4]; exact ba_app _ _) (by rw [← hZ3, ← hW, ba_size, ba_size, List.length_append, List.length_append, List.length_append]; show _ + 1 + _ + 5 + 4 ≤ _; omega)
          have ad5 : ∀ u : World, (Op.stringOp .add Z4 ⟨#[10]⟩).run Tryd.prog u = .ok (.string Z5) u := add_ba (by rw [← hZ4, ← hZ5, PS.out]; rw [show (⟨#[10]⟩ : ByteArray) = ba [10] from rfl, ba_app]; congr 1; simp) (by rw [← hZ4, ba_size, List.length_append, List.length_append, List.length_append, List.length_append]; show _ + 1 + _ + 5 + 4 + 1 ≤ _; omega)
          have HZ5 := Lib.hid hZ5
          have TXC := Lib.hid (fun u (x : Ext V u) => text_all n A (.slice a2 d.layers.length c2) d.layers 0 64 l' u (HLV.out.ext x) HGS.out (by omega) (TBV.out.ext x))
          rw [HTX.out, hT] at TXC
          have LOC := Lib.hid (fun u => losses_new u)
          rw [hloss] at k2 BDV
          have HX := Lib.hid XV
          clear hZ1 hT hZ2 hZ3 hZ4 hZ5 hloss PS WRD HLV HGS TBV HC
          go_upto_region 9 with (fail)
          go_region_with (first
              | (go_at_call 20; refine (TXC.out _ (by repeat (first | with_reducible exact Ext.refl _ | with_reducible apply Ext.drew | with_reducible apply Ext.drewN | with_reducible apply Ext.alloc | ((with_reducible refine Ext.setCell ?_ ?_ _); rotate_left; focus (first | (simp; done) | (simp; omega) | omega)) | with_reducible refine Ext.tr ?_ x1 | with_reducible refine Ext.tr ?_ x2 | with_reducible refine Ext.tr ?_ x5 | with_reducible refine Ext.tr ?_ x6 | with_reducible refine Ext.tr ?_ x9 | with_reducible refine Ext.tr ?_ hx | with_reducible assumption))).mono ?_; rintro e v5 ⟨rfl, x5⟩; have y5 : Ext V v5 := (by repeat (first | with_reducible exact Ext.refl _ | with_reducible apply Ext.drew | with_reducible apply Ext.drewN | with_reducible apply Ext.alloc | ((with_reducible refine Ext.setCell ?_ ?_ _); rotate_left; focus (first | (simp; done) | (simp; omega) | omega)) | with_reducible refine Ext.tr ?_ x1 | with_reducible refine Ext.tr ?_ x2 | with_reducible refine Ext.tr ?_ x5 | with_reducible refine Ext.tr ?_ x6 | with_reducible refine Ext.tr ?_ x9 | with_reducible refine Ext.tr ?_ hx | with_reducible assumption)); have m1 := y5.cell k1; have m2 := y5.cell k2; have zm : w.heap.size < v5.heap.size := cell_lt m1; (try (have jj := x5.cell j1; have zjj := cell_lt jj; simp only at zjj)); clear TXC)
              | (go_at_call 21; refine (LOC.out _).mono ?_; rintro e v6 ⟨H, rfl, j1, j2, x6⟩; have y6 : Ext V v6 := (by repeat (first | with_reducible exact Ext.refl _ | with_reducible apply Ext.drew | with_reducible apply Ext.drewN | with_reducible apply Ext.alloc | ((with_reducible refine Ext.setCell ?_ ?_ _); rotate_left; focus (first | (simp; done) | (simp; omega) | omega)) | with_reducible refine Ext.tr ?_ x1 | with_reducible refine Ext.tr ?_ x2 | with_reducible refine Ext.tr ?_ x5 | with_reducible refine Ext.tr ?_ x6 | with_reducible refine Ext.tr ?_ x9 | with_reducible refine Ext.tr ?_ hx | with_reducible assumption)); have o1 := y6.cell k1; have o2 := y6.cell k2; have zo : w.heap.size < v6.heap.size := cell_lt o1; have zH : H < v6.heap.size := cell_lt j1; clear LOC))
          all_goals
            go_wp2_with fail
            (try rw [Exit.noGoto_ret])
            change bodyPost _ _ _ _ _ _
            refine bodyPost_ret (results_tmp2 rfl _ _ _) rfl ?_
            exact PP.out _ HZ5.out _ (HX.out.tr (by repeat (first | with_reducible exact Ext.refl _ | with_reducible apply Ext.drew | with_reducible apply Ext.drewN | with_reducible apply Ext.alloc | ((with_reducible refine Ext.setCell ?_ ?_ _); rotate_left; focus (first | (simp; done) | (simp; omega) | omega)) | with_reducible refine Ext.tr ?_ x1 | with_reducible refine Ext.tr ?_ x2 | with_reducible refine Ext.tr ?_ x5 | with_reducible refine Ext.tr ?_ x6 | with_reducible refine Ext.tr ?_ x9 | with_reducible refine Ext.tr ?_ hx | with_reducible assumption)))
        · have WRD := Lib.hid (show (if d.loss = 1 then xentB else squareB) = squareB by rw [hloss]; rfl)
          have PS := Lib.hid (show printS d = z0 ++ [10] ++ tx ++ lossB ++ [32] ++ squareB ++ [10] by unfold printS; rw [WRD.out, HZ0.out, HTX.out])
          obtain ⟨Z1, hZ1⟩ : ∃ Z1, ba (z0 ++ [10]) = Z1 := ⟨_, rfl⟩
          obtain ⟨T, hT⟩ : ∃ T, ba tx = T := ⟨_, rfl⟩
          obtain ⟨Z2, hZ2⟩ : ∃ Z2, ba (z0 ++ [10] ++ tx) = Z2 := ⟨_, rfl⟩
          obtain ⟨Z3, hZ3⟩ : ∃ Z3, ba (z0 ++ [10] ++ tx ++ (lossB ++ [32])) = Z3 := ⟨_, rfl⟩
          obtain ⟨W, hW⟩ : ∃ W, ba squareB = W := ⟨_, rfl⟩
          obtain ⟨Z4, hZ4⟩ : ∃ Z4, ba (z0 ++ [10] ++ tx ++ (lossB ++ [32]) ++ squareB) = Z4 := ⟨_, rfl⟩
          obtain ⟨Z5, hZ5⟩ : ∃ Z5, ba (printS d) = Z5 := ⟨_, rfl⟩
          have ad1 : ∀ u : World, (Op.stringOp .add Z ⟨#[10]⟩).run Tryd.prog u = .ok (.string Z1) u := add_ba (by rw [← HZ.out, ← hZ1]; exact ba_app _ [10]) (by rw [← HZ.out, ba_size]; show _ + 1 ≤ _; omega)
          have ad2 : ∀ u : World, (Op.stringOp .add Z1 T).run Tryd.prog u = .ok (.string Z2) u := add_ba (by rw [← hZ1, ← hT, ← hZ2]; exact ba_app _ _) (by rw [← hZ1, ← hT, ba_size, ba_size, List.length_append]; show _ + 1 + _ ≤ _; omega)
          have ad3 : ∀ u : World, (Op.stringOp .add Z2 ⟨#[108, 111, 115, 115, 32]⟩).run Tryd.prog u = .ok (.string Z3) u := add_ba (by rw [← hZ2, ← hZ3]; exact ba_app _ (lossB ++ [32])) (by rw [← hZ2, ba_size, List.length_append, List.length_append]; show _ + 1 + _ + 5 ≤ _; omega)
          have ad4 : ∀ u : World, (Op.stringOp .add Z3 W).run Tryd.prog u = .ok (.string Z4) u := add_ba (by rw [← hZ3, ← hW, ← hZ4]; exact ba_app _ _) (by rw [← hZ3, ← hW, ba_size, ba_size, List.length_append, List.length_append, List.length_append]; show _ + 1 + _ + 5 + 6 ≤ _; omega)
          have ad5 : ∀ u : World, (Op.stringOp .add Z4 ⟨#[10]⟩).run Tryd.prog u = .ok (.string Z5) u := add_ba (by rw [← hZ4, ← hZ5, PS.out]; rw [show (⟨#[10]⟩ : ByteArray) = ba [10] from rfl, ba_app]; congr 1; simp) (by rw [← hZ4, ba_size, List.length_append, List.length_append, List.length_append, List.length_append]; show _ + 1 + _ + 5 + 6 + 1 ≤ _; omega)
          have HZ5 := Lib.hid hZ5
          have TXC := Lib.hid (fun u (x : Ext V u) => text_all n A (.slice a2 d.layers.length c2) d.layers 0 64 l' u (HLV.out.ext x) HGS.out (by omega) (TBV.out.ext x))
          rw [HTX.out, hT] at TXC
          have LOC := Lib.hid (fun u => losses_new u)
          rw [hloss] at k2 BDV
          have HX := Lib.hid XV
          clear hZ1 hT hZ2 hZ3 hZ4 hZ5 hloss PS WRD HLV HGS TBV HC
          go_upto_region 9 with (fail)
          go_region_with (first
              | (go_at_call 20; refine (TXC.out _ (by repeat (first | with_reducible exact Ext.refl _ | with_reducible apply Ext.drew | with_reducible apply Ext.drewN | with_reducible apply Ext.alloc | ((with_reducible refine Ext.setCell ?_ ?_ _); rotate_left; focus (first | (simp; done) | (simp; omega) | omega)) | with_reducible refine Ext.tr ?_ x1 | with_reducible refine Ext.tr ?_ x2 | with_reducible refine Ext.tr ?_ x5 | with_reducible refine Ext.tr ?_ x6 | with_reducible refine Ext.tr ?_ x9 | with_reducible refine Ext.tr ?_ hx | with_reducible assumption))).mono ?_; rintro e v5 ⟨rfl, x5⟩; have y5 : Ext V v5 := (by repeat (first | with_reducible exact Ext.refl _ | with_reducible apply Ext.drew | with_reducible apply Ext.drewN | with_reducible apply Ext.alloc | ((with_reducible refine Ext.setCell ?_ ?_ _); rotate_left; focus (first | (simp; done) | (simp; omega) | omega)) | with_reducible refine Ext.tr ?_ x1 | with_reducible refine Ext.tr ?_ x2 | with_reducible refine Ext.tr ?_ x5 | with_reducible refine Ext.tr ?_ x6 | with_reducible refine Ext.tr ?_ x9 | with_reducible refine Ext.tr ?_ hx | with_reducible assumption)); have m1 := y5.cell k1; have m2 := y5.cell k2; have zm : w.heap.size < v5.heap.size := cell_lt m1; (try (have jj := x5.cell j1; have zjj := cell_lt jj; simp only at zjj)); clear TXC)
              | (go_at_call 21; refine (LOC.out _).mono ?_; rintro e v6 ⟨H, rfl, j1, j2, x6⟩; have y6 : Ext V v6 := (by repeat (first | with_reducible exact Ext.refl _ | with_reducible apply Ext.drew | with_reducible apply Ext.drewN | with_reducible apply Ext.alloc | ((with_reducible refine Ext.setCell ?_ ?_ _); rotate_left; focus (first | (simp; done) | (simp; omega) | omega)) | with_reducible refine Ext.tr ?_ x1 | with_reducible refine Ext.tr ?_ x2 | with_reducible refine Ext.tr ?_ x5 | with_reducible refine Ext.tr ?_ x6 | with_reducible refine Ext.tr ?_ x9 | with_reducible refine Ext.tr ?_ hx | with_reducible assumption)); have o1 := y6.cell k1; have o2 := y6.cell k2; have zo : w.heap.size < v6.heap.size := cell_lt o1; have zH : H < v6.heap.size := cell_lt j1; clear LOC))
          all_goals
            go_wp2_with fail
            (try rw [Exit.noGoto_ret])
            change bodyPost _ _ _ _ _ _
            refine bodyPost_ret (results_tmp2 rfl _ _ _) rfl ?_
            exact PP.out _ HZ5.out _ (HX.out.tr (by repeat (first | with_reducible exact Ext.refl _ | with_reducible apply Ext.drew | with_reducible apply Ext.drewN | with_reducible apply Ext.alloc | ((with_reducible refine Ext.setCell ?_ ?_ _); rotate_left; focus (first | (simp; done) | (simp; omega) | omega)) | with_reducible refine Ext.tr ?_ x1 | with_reducible refine Ext.tr ?_ x2 | with_reducible refine Ext.tr ?_ x5 | with_reducible refine Ext.tr ?_ x6 | with_reducible refine Ext.tr ?_ x9 | with_reducible refine Ext.tr ?_ hx | with_reducible assumption)))
end Go.Proofs.YtfimmcnfmipnlaaDoor
