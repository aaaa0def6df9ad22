/- ratchetlaw0.Layers: own layers are written over; nothing else. -/
import Derived.Test.YtkdfenkpfffcaaaSpoil
import Derived.Maps.AppendAt
namespace Go.Proofs.Ytkdfenkpfffcaaa
open Go.RowKit
def put9 (cs : Array Value) (k : Nat) (x0 x1 x2 x3 x4 x5 x6 x7 x8 : Value) : Array Value :=
  ((((((((cs.setIfInBounds (k * 9) x0).setIfInBounds (k * 9 + 1) x1).setIfInBounds (k * 9 + 2) x2).setIfInBounds (k * 9 + 3) x3).setIfInBounds (k * 9 + 4) x4).setIfInBounds (k * 9 + 5) x5).setIfInBounds (k * 9 + 6) x6).setIfInBounds (k * 9 + 7) x7).setIfInBounds (k * 9 + 8) x8
theorem put9_size (cs : Array Value) (k : Nat) (x0 x1 x2 x3 x4 x5 x6 x7 x8 : Value) : (put9 cs k x0 x1 x2 x3 x4 x5 x6 x7 x8).size = cs.size := by simp [put9]
theorem put9_out (cs : Array Value) (k : Nat) (x0 x1 x2 x3 x4 x5 x6 x7 x8 : Value) (j : Nat) (h : j < k * 9 ∨ k * 9 + 9 ≤ j) : (put9 cs k x0 x1 x2 x3 x4 x5 x6 x7 x8)[j]? = cs[j]? := by
  unfold put9
  simp only [Array.getElem?_setIfInBounds]
  repeat rw [if_neg (by omega)]
theorem put9_in (cs : Array Value) (k : Nat) (hk : k * 9 + 9 ≤ cs.size) (x0 x1 x2 x3 x4 x5 x6 x7 x8 : Value) (p : Nat) (h : p < 9) : (put9 cs k x0 x1 x2 x3 x4 x5 x6 x7 x8)[k * 9 + p]? = #[x0, x1, x2, x3, x4, x5, x6, x7, x8][p]? := by
  have hh : p = 0 ∨ p = 1 ∨ p = 2 ∨ p = 3 ∨ p = 4 ∨ p = 5 ∨ p = 6 ∨ p = 7 ∨ p = 8 := by omega
  unfold put9
  rcases hh with rfl | rfl | rfl | rfl | rfl | rfl | rfl | rfl | rfl <;> simp only [Array.getElem?_setIfInBounds, Array.size_setIfInBounds] <;> simp <;> omega
theorem spoil_nine {A : Nat → Prop} {w : World} {g : Nat} {cs : Array Value} {k : Nat} {f : LayF} (hA : A g) (hb : Blk w g 105 cs) (hk : k * 9 + 9 ≤ cs.size) :
    Spoil A w (((((((((w.setCell ⟨g, k * 9, none⟩ (.int .i64 f.kind)).setCell ⟨g, k * 9 + 1, none⟩ (.int .i64 f.inn)).setCell ⟨g, k * 9 + 2, none⟩ (.int .i64 f.out)).setCell ⟨g, k * 9 + 3, none⟩ (.int .i64 f.size)).setCell ⟨g, k * 9 + 4, none⟩ (.int .i64 f.stride)).setCell ⟨g, k * 9 + 5, none⟩ (.int .i64 f.pad)).setCell ⟨g, k * 9 + 6, none⟩ (.int .i64 f.percent)).setCell ⟨g, k * 9 + 7, none⟩ (.int .i64 f.heads)).setCell ⟨g, k * 9 + 8, none⟩ (.slice none 0 0)) := by
  have hB := ((((((((hb.set_ (k * 9) (.int .i64 f.kind)).set_ (k * 9 + 1) (.int .i64 f.inn)).set_ (k * 9 + 2) (.int .i64 f.out)).set_ (k * 9 + 3) (.int .i64 f.size)).set_ (k * 9 + 4) (.int .i64 f.stride)).set_ (k * 9 + 5) (.int .i64 f.pad)).set_ (k * 9 + 6) (.int .i64 f.percent)).set_ (k * 9 + 7) (.int .i64 f.heads)).set_ (k * 9 + 8) (.slice none 0 0)
  have hg := ((((((((((GB.refl w g).set (k * 9) (.int .i64 f.kind)).set (k * 9 + 1) (.int .i64 f.inn)).set (k * 9 + 2) (.int .i64 f.out)).set (k * 9 + 3) (.int .i64 f.size)).set (k * 9 + 4) (.int .i64 f.stride)).set (k * 9 + 5) (.int .i64 f.pad)).set (k * 9 + 6) (.int .i64 f.percent)).set (k * 9 + 7) (.int .i64 f.heads)).set (k * 9 + 8) (.slice none 0 0))
  exact Spoil.one hA hb hB (sp_group (k := k) (f := f) (put9_size cs k _ _ _ _ _ _ _ _ _) (fun p hp => put9_in cs k hk _ _ _ _ _ _ _ _ _ p hp) (fun j hj => put9_out cs k _ _ _ _ _ _ _ _ _ j hj)) hg.os hg.tape hg.output hg.size (fun b hb' hne => hg.block b hb' (fun e => hne (Option.some.inj e)))
/-- An own slice of layers as a row of its own. -/
theorem lays_own {w : World} {base g len cap : Nat} {cur : Array Value} (h : Blk w g 105 cur) (hs : cur.size = cap * 9) (h1 : len ≤ cap) (h2 : cap ≤ maxLen) (hb : base ≤ g) : w.ownsRow base 105 9 (.slice (some ⟨g, 0, none⟩) len cap) len (cur.toList.take (len * 9)) :=
  ⟨by rw [List.length_take, Array.length_toList]; omega, .inr ⟨g, cap, cur, rfl, hb, h, h1, h2, hs, rfl⟩⟩
def LayersOk (n : Nat) : Prop := ∀ (A : Nat → Prop) (base : Nat) (v : Value) (w : World), OwnL A w n v → (∀ b, A b → base ≤ b) → base ≤ w.heap.size →
  Calls Try.prog 14 #[v] w fun e w' => e = .returned (.tuple #[]) ∧ Spoil A w w'
theorem cells9 (w : World) (g o : Nat) (f : LayF) : w.setCells g o (layA f (.slice none 0 0)).toList = (((((((((w.setCell ⟨g, o, none⟩ (.int .i64 f.kind)).setCell ⟨g, o + 1, none⟩ (.int .i64 f.inn)).setCell ⟨g, o + 2, none⟩ (.int .i64 f.out)).setCell ⟨g, o + 3, none⟩ (.int .i64 f.size)).setCell ⟨g, o + 4, none⟩ (.int .i64 f.stride)).setCell ⟨g, o + 5, none⟩ (.int .i64 f.pad)).setCell ⟨g, o + 6, none⟩ (.int .i64 f.percent)).setCell ⟨g, o + 7, none⟩ (.int .i64 f.heads)).setCell ⟨g, o + 8, none⟩ (.slice none 0 0)) := rfl
theorem zero_parts : LayF.zero.kind = 0 ∧ LayF.zero.inn = 0 ∧ LayF.zero.out = 0 ∧ LayF.zero.size = 0 ∧ LayF.zero.stride = 0 ∧ LayF.zero.pad = 0 ∧ LayF.zero.percent = 0 ∧ LayF.zero.heads = 0 := ⟨rfl, rfl, rfl, rfl, rfl, rfl, rfl, rfl⟩
theorem Spoil.setN {A : Nat → Prop} {a b : World} (h : Spoil A a b) (n : Nat) : Spoil A a (b.drewN n) := ⟨h.os, h.tape, h.output, h.size, h.block⟩
set_option maxHeartbeats 4000000 in
set_option maxRecDepth 100000 in
theorem layers0_step (n : Nat) (IH : ∀ m, n = m + 1 → LayersOk m) : LayersOk n := by
  intro A base v w h hA hbase
  obtain ⟨i0, hi0, hz0, hz1, hz2⟩ := info_parts lay_info
  by_cases hv : v = .slice none 0 0
  · subst hv
    clear h IH hA
    go_enter Try.func14, Try.ntmps14
    go_wp2_with fail
    go_loopw [2] (fun i wr => i = .int .i64 0 ∧ wr = w) (fun _ _ => 0)
    case atStart => exact ⟨rfl, rfl⟩
    case round =>
      obtain ⟨rfl, hwr⟩ := hrel
      subst hwr
      go_wp2_with (at_builtin; refine (show Hid _ from ?_).out)
      refine Lib.hid ?_
      refine wpList_append_own_at _ rfl _ _ 26 rfl wr.heap.size 105 i0 _ 9 88 Try.underlying26 hi0 hz0 hz1 hz2 rfl (by decide) _ 0 [] rfl (World.ownsRow_nil _ _ _ _) ⟨wr.heap.size, 0, none⟩ 1 1 (layA LayF.zero (.slice none 0 0)).toList rfl rfl (newsL_1 _ _ _ _) (oneL_1 _ _ _ _) (by decide) (by decide) (by simp) ?_
      intro v' w4 hown hgrow _ hob
      have X := Lib.hid (((Spoil.refl A wr).ext ((Ext.refl wr).alloc (.cells (layA LayF.zero (.slice none 0 0)) 105))).grown hgrow)
      clear hown hgrow hob
      go_wp2_with fail
      (try rw [Exit.noGoto_ret])
      simp [bodyPost, results, Try.results14, go_sem]
      exact X.out
  · cases n with
    | zero => exact absurd h hv
    | succ n =>
      rcases h with h | h
      · exact absurd h hv
      obtain ⟨g, len, cap, cur, rfl, hg, hb0, hs0, hlc, hcm, hl0, hel⟩ := h
      have H0 : Hid (OwnL A w (n + 1) (.slice (some ⟨g, 0, none⟩) len cap)) := Lib.hid (.inr ⟨g, len, cap, cur, rfl, hg, hb0, hs0, hlc, hcm, hl0, hel⟩)
      have IH' := Lib.hid (IH n rfl)
      have HG := Lib.hid hg
      have HA := Lib.hid hA
      clear hb0 hs0 hel IH hv hg hA
      go_enter Try.func14, Try.ntmps14
      go_wp2_with fail
      go_loopw [2] (fun i wr => ∃ k : Nat, k ≤ len ∧ i = .int .i64 k ∧ OwnL A wr (n + 1) (.slice (some ⟨g, 0, none⟩) len cap) ∧ Spoil A w wr) (fun i _ => len - (intOf i).toNat)
      case atStart => exact ⟨0, Nat.zero_le _, rfl, H0.out, Spoil.refl _ _⟩
      case round =>
        obtain ⟨k, hk, rfl, hown, hsp⟩ := hrel
        have HS := Lib.hid hsp
        have HW := Lib.hid hown
        have zs := hsp.size
        clear H0 hsp
        rcases hown with hown | hown
        · cases hown
        obtain ⟨g', len', cap', cur1, e, -, hb1, hs1, -, -, -, hel⟩ := hown
        cases e
        rcases Nat.lt_or_ge k len with hlt | hge
        · have hlz : (k : Int) < (len : Int) := by omega
          obtain ⟨-, bv, e8, ob⟩ := hel k hlt
          have c8 : wr.cell? ⟨g, k * 9 + 8, none⟩ = some bv := (hb1.cell _).trans e8
          have zg := cell_lt c8
          simp only at zg
          have CA := Lib.hid (IH'.out A base bv wr ob HA.out (by omega))
          clear hel e8 ob hb1 hs1 IH'
          go_wp2_with fail
          refine CA.out.mono ?_
          rintro e w3 ⟨rfl, sp⟩
          have HW3 := HW.out.spoil sp
          have HS3 := Lib.hid (HS.out.trans sp)
          clear CA sp c8 HW HS
          rcases HW3 with HW3 | HW3
          · cases HW3
          obtain ⟨g', len', cap', cur3, e, -, hb3, hs3, -, -, -, hel⟩ := HW3
          cases e
          have HW4 := Lib.hid (show OwnL A w3 (n + 1) (.slice (some ⟨g, 0, none⟩) len cap) from .inr ⟨g, len, cap, cur3, rfl, HG.out, hb3, hs3, hlc, hcm, hl0, hel⟩)
          obtain ⟨h8, bv3, e8, -⟩ := hel k hlt
          obtain ⟨x0, e0⟩ := h8 0 (by omega)
          obtain ⟨x1, e1⟩ := h8 1 (by omega)
          obtain ⟨x2, e2⟩ := h8 2 (by omega)
          obtain ⟨x3, e3⟩ := h8 3 (by omega)
          obtain ⟨x4, e4⟩ := h8 4 (by omega)
          obtain ⟨x5, e5⟩ := h8 5 (by omega)
          obtain ⟨x6, e6⟩ := h8 6 (by omega)
          obtain ⟨x7, e7⟩ := h8 7 (by omega)
          have c0 : w3.cell? ⟨g, k * 9, none⟩ = some (.int .i64 x0) := (hb3.cell _).trans e0
          have c1 : w3.cell? ⟨g, k * 9 + 1, none⟩ = some (.int .i64 x1) := (hb3.cell _).trans e1
          have c2 : w3.cell? ⟨g, k * 9 + 2, none⟩ = some (.int .i64 x2) := (hb3.cell _).trans e2
          have c3 : w3.cell? ⟨g, k * 9 + 3, none⟩ = some (.int .i64 x3) := (hb3.cell _).trans e3
          have c4 : w3.cell? ⟨g, k * 9 + 4, none⟩ = some (.int .i64 x4) := (hb3.cell _).trans e4
          have c5 : w3.cell? ⟨g, k * 9 + 5, none⟩ = some (.int .i64 x5) := (hb3.cell _).trans e5
          have c6 : w3.cell? ⟨g, k * 9 + 6, none⟩ = some (.int .i64 x6) := (hb3.cell _).trans e6
          have c7 : w3.cell? ⟨g, k * 9 + 7, none⟩ = some (.int .i64 x7) := (hb3.cell _).trans e7
          have c8 : w3.cell? ⟨g, k * 9 + 8, none⟩ = some bv3 := (hb3.cell _).trans e8
          have q0 := hb3.frozen (k * 9)
          have q1 := hb3.frozen (k * 9 + 1)
          have q2 := hb3.frozen (k * 9 + 2)
          have q3 := hb3.frozen (k * 9 + 3)
          have q4 := hb3.frozen (k * 9 + 4)
          have q5 := hb3.frozen (k * 9 + 5)
          have q6 := hb3.frozen (k * 9 + 6)
          have q7 := hb3.frozen (k * 9 + 7)
          have q8 := hb3.frozen (k * 9 + 8)
          have SN := Lib.hid (spoil_nine (k := k) (f := { LayF.zero with kind := 99 }) HG.out hb3 (by omega))
          clear hel h8 e0 e1 e2 e3 e4 e5 e6 e7 e8 hb3 hs3
          go_wp2_with fail
          exact ⟨⟨k + 1, by omega, by go_num, HW4.out.spoil SN.out, HS3.out.trans SN.out⟩, by simp [intOf]; omega⟩
        · have hlz : ¬ (k : Int) < (len : Int) := by omega
          have hlk : k = len := by omega
          subst hlk
          have hn2 : k + 1 ≤ maxLen := by unfold maxLen; omega
          have hn3 : (k + 1) * 88 ≤ 140737488355328 := by omega
          obtain ⟨W1, hW1⟩ : ∃ W1 : World, wr.alloc (.cells (layA LayF.zero (.slice none 0 0)) 105) = W1 := ⟨_, rfl⟩
          have xW : Ext wr W1 := by rw [← hW1]; exact (Ext.refl wr).alloc _
          have hbW := hb1.ext xW
          have SPW := Lib.hid (HS.out.ext xW)
          have SG := Lib.hid (fun (_ : k + 1 ≤ cap) => spoil_nine (k := k) (f := LayF.zero) HG.out hbW (by omega))
          have HBW := Lib.hid hbW
          have HW1 := Lib.hid hW1
          clear hel hb1 xW hW1 hbW HA IH' HW
          go_wp2_with (at_builtin; refine (show Hid _ from ?_).out)
          rw [show (wr.alloc (.cells #[.int .i64 0, .int .i64 0, .int .i64 0, .int .i64 0, .int .i64 0, .int .i64 0, .int .i64 0, .int .i64 0, .slice none 0 0] 105)) = W1 from HW1.out]
          refine Lib.hid ?_
          refine wpList_append_arg _ rfl _ _ 26 rfl 105 i0 _ 9 88 Try.underlying26 hi0 hz0 hz1 hz2 rfl (by decide) g 0 k cap (cur1.toList.take (k * 9)) rfl (by rw [List.length_take, Array.length_toList]; omega) ?olds ⟨wr.heap.size, 0, none⟩ 1 1 (layA LayF.zero (.slice none 0 0)).toList rfl rfl ?news (oneL_1 _ _ _ _) ?spare hn2 hn3 ?room ?grow
          case olds =>
            intro j u hj
            rw [Nat.zero_add, HBW.out.cell]
            rw [List.getElem?_take] at hj
            split at hj
            · rw [← hj, Array.getElem?_toList]
            · cases hj
          case news =>
            rw [← HW1.out]
            exact newsL_1 _ _ _ _
          case spare =>
            intro hr j hj
            have hj9 : j < 9 := hj
            refine ⟨?_, HBW.out.frozen _⟩
            rw [HBW.out.cell, Array.getElem?_eq_getElem (by omega)]
            rfl
          case room =>
            intro hr
            have X := Lib.hid (SPW.out.trans (SG.out hr))
            rw [Nat.zero_add, cells9]
            clear SG SPW
            go_wp2_with fail
            (try rw [Exit.noGoto_ret])
            simp [bodyPost, results, Try.results14, go_sem]
            exact X.out
          case grow =>
            intro hr v' w' hown hgrow
            have X := Lib.hid (SPW.out.grown hgrow)
            clear SG SPW hown hgrow
            go_wp2_with fail
            (try rw [Exit.noGoto_ret])
            simp [bodyPost, results, Try.results14, go_sem]
            exact X.out
theorem layers0_any : ∀ n, LayersOk n
  | 0 => layers0_step 0 (fun _ h => by omega)
  | n + 1 => layers0_step (n + 1) (fun m h => by
    have e : m = n := by omega
    rw [e]; exact layers0_any n)
end Go.Proofs.Ytkdfenkpfffcaaa
