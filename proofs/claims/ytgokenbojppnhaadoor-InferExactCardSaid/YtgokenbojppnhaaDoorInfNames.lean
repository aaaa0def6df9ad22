/- Layer 27, plain law: a residual of layers tells what the layers tell, with names behind its own. No function of the program is named here. The laws of layer 27: their small functions; the wakes. Layer 27: plain laws for the statements; parameters' cells. Layer 27, plain laws: parameters' names. -/
import Derived.Test.YtgokenbojppnhaaDoorInfGood
import Derived.Test.YtgokenbojppnhaaDoorInfOut
import Derived.Test.YtgokenbojppnhaaDoorStoreRow
import Derived.Test.YtgokenbojppnhaaDoorRefMay4
import Derived.Test.YtgokenbojppnhaaDoorDefOpen
import Derived.Test.YtgokenbojppnhaaDoorDefUse
namespace Go.Proofs.YtgokenbojppnhaaDoor
def tagP (pre : Bs) (p : ParamP) : ParamP := ⟨pre ++ p.name, p.shape, p.inn, p.out⟩
def Told.tag (pre : Bs) : Told → Told
  | .bad e => .bad e
  | .ok x ps => .ok x (ps.map (tagP pre))
theorem does_tag (pre : Bs) (f : LayF) (s : List Int) (first : Bool) (nm : Bs) : doesS f s first (pre ++ nm) = (doesS f s first nm).map (fun q => (q.1, q.2.map (tagP pre))) := by
  unfold doesS
  by_cases h1 : f.kind = 1
  · simp only [if_pos h1]
    split <;> simp [tagP]
  simp only [if_neg h1]
  by_cases h2 : f.kind = 2
  · simp only [if_pos h2]
    cases imageS f s with
    | none => rfl
    | some p =>
      simp only
      split <;> simp [tagP]
  simp only [if_neg h2]
  by_cases h8 : f.kind = 8 ∨ f.kind = 9
  · simp only [if_pos h8]
    cases imageS f s <;> rfl
  simp only [if_neg h8]
  by_cases h10 : f.kind = 10
  · simp only [if_pos h10]; rfl
  simp only [if_neg h10]
  by_cases h11 : f.kind = 11
  · simp only [if_pos h11]
    split <;> simp [tagP]
  simp only [if_neg h11]
  by_cases h12 : f.kind = 12
  · simp only [if_pos h12]
    split <;> simp [tagP]
  simp only [if_neg h12]
  rfl
theorem shp_tag (pre : Bs) (ps : List ParamP) : (ps.map (tagP pre)).all (fun p => shp p.shape) = ps.all (fun p => shp p.shape) := by
  rw [List.all_map]; rfl
theorem judge_tag (pre : Bs) (f : LayF) (s : List Int) (first : Bool) (nm : Bs) : judgeS f s first (pre ++ nm) = (judgeS f s first nm).tag pre := by
  unfold judgeS
  rw [does_tag]
  cases doesS f s first nm with
  | none => rfl
  | some q =>
    obtain ⟨o, ps⟩ := q
    simp only [Option.map_some, shp_tag]
    split <;> rfl
mutual
theorem infer_tag (pre : Bs) : ∀ (l : Lay) (first : Bool) (nm : Bs) (s : List Int), l.infer first (pre ++ nm) s = (l.infer first nm s).tag pre
  | .mk f b, first, nm, s => by
    rw [Lay.infer, Lay.infer]
    by_cases h : f.kind = 13
    · simp only [if_pos h]
      rw [List.append_assoc, inferS_tag pre b]
      cases inferS false (nm ++ [46]) 0 s b with
      | bad e => rfl
      | ok x ps =>
        simp only [Told.tag]
        split <;> rfl
    · simp only [if_neg h]
      exact judge_tag pre f s first nm
theorem inferS_tag (pre : Bs) : ∀ (L : List Lay) (first : Bool) (ah : Bs) (k : Nat) (s : List Int), inferS first (pre ++ ah) k s L = (inferS first ah k s L).tag pre
  | [], _, _, _, _ => by simp [inferS, Told.tag]
  | l :: ls, first, ah, k, s => by
    rw [inferS, inferS, List.append_assoc, infer_tag pre l]
    cases l.infer first (ah ++ Lib.itoa (k : Int)) s with
    | bad e => rfl
    | ok x ps =>
      simp only [Told.tag]
      rw [inferS_tag pre ls]
      cases inferS false ah (k + 1) x ls with
      | bad e => rfl
      | ok y qs => simp [Told.tag]
end
theorem does_first {f : LayF} (h : f.kind ≠ 11) (s : List Int) (a b : Bool) (nm : Bs) : doesS f s a nm = doesS f s b nm := by
  unfold doesS
  simp only [if_neg h]
theorem infer_first {f : LayF} {bd : List Lay} (h : f.kind ≠ 11) (s : List Int) (a b : Bool) (nm : Bs) : (Lay.mk f bd).infer a nm s = (Lay.mk f bd).infer b nm s := by
  rw [Lay.infer, Lay.infer]
  unfold judgeS
  rw [does_first h s a b nm]
/-- The first layer is none that must be the first. -/
def NoEmb (L : List Lay) : Prop := ∀ f bd ls, L = .mk f bd :: ls → f.kind ≠ 11
theorem inferS_first {L : List Lay} (h : NoEmb L) (a b : Bool) (ah : Bs) (k : Nat) (s : List Int) : inferS a ah k s L = inferS b ah k s L := by
  cases L with
  | nil => simp [inferS]
  | cons l ls =>
    obtain ⟨f, bd⟩ := l
    rw [inferS, inferS, infer_first (h f bd ls rfl) s a b]
theorem told_good {d : DefL} (hg : goodD d = true) : toldS d = if fullS d.input = false then .bad 5 else match inferS true [] 0 d.input d.layers with
  | .bad e => .bad e
  | .ok x ps => if d.loss = 1 ∧ x.length ≠ 1 then .bad 2 else .ok x ps := by
  unfold toldS
  rw [hg]
  rfl
theorem told_sq {d : DefL} (hg : goodD d = true) (hl : d.loss ≠ 1) (hf : fullS d.input = true) : toldS d = inferS true [] 0 d.input d.layers := by
  rw [told_good hg, hf, if_neg (by decide)]
  cases inferS true [] 0 d.input d.layers with
  | bad e => rfl
  | ok x ps =>
    show (if d.loss = 1 ∧ x.length ≠ 1 then Told.bad 2 else Told.ok x ps) = _
    rw [if_neg (fun h => hl h.1)]
theorem dec_zero : Lib.itoa ((0 : Nat) : Int) = [48] := by
  rw [itoa_nat, Lib.decDigits, dif_pos (by omega)]
  rfl
/-- What a residual of a definition's layers tells. -/
theorem res_told {d : DefL} {g : LayF} (hg : goodD d = true) (hn : NoEmb d.layers) (h13 : g.kind = 13) (hl : d.loss ≠ 1) (hr : goodD ⟨d.input, [.mk g d.layers], 2⟩ = true) :
    toldS ⟨d.input, [.mk g d.layers], 2⟩ = match toldS d with
      | .bad e => .bad e
      | .ok x ps => if x = d.input then .ok x (ps.map (tagP [48, 46])) else .bad 2 := by
  cases hf : fullS d.input with
  | false =>
    rw [told_good hg, told_good hr]
    simp only [hf, if_true]
  | true =>
    rw [told_sq hg hl hf, told_sq hr (show (2 : Int) ≠ 1 by decide) hf]
    show inferS true [] 0 d.input [.mk g d.layers] = _
    rw [inferS, infer_body h13]
    have e : ([] ++ Lib.itoa ((0 : Nat) : Int) ++ [46] : Bs) = [48, 46] ++ [] := by rw [dec_zero]; rfl
    rw [e, inferS_tag, inferS_first hn false true]
    generalize inferS true [] 0 d.input d.layers = t
    cases t with
    | bad e => rfl
    | ok x ps =>
      by_cases hx : x = d.input
      · subst hx
        simp [inferS, Told.tag]
      · simp [Told.tag, hx]
end Go.Proofs.YtgokenbojppnhaaDoor
namespace Go.Proofs.YtgokenbojppnhaaDoor
open Go.RowKit
theorem num27_any (x : Int) (w : World) : Calls Tryd.prog 11 #[.int .i64 x] w fun e w' => e = .returned (.int .i64 x) ∧ w = w' := by
  go_enter Tryd.func11, Tryd.ntmps11
  go_wp2
  go_ret
  exact ⟨rfl, rfl⟩
/-- A list of one layer. -/
theorem LaysAt.one27 {A : Nat → Prop} {w : World} {n g : Nat} {f : LayF} {a : Option Addr} {m c : Nat} {bd : List Lay} (h : Blk w g 52 #[.int .i64 f.kind, .int .i64 f.inn, .int .i64 f.out, .int .i64 f.size, .int .i64 f.stride, .int .i64 f.pad, .int .i64 f.percent, .int .i64 f.heads, .slice a m c]) (hA : A g) (hb : LaysAt A w n (.slice a m c) bd) : LaysAt A w (n + 1) (.slice (some ⟨g, 0, none⟩) 1 1) [.mk f bd] := by
  refine ⟨_, _, rfl, by simp [maxLen], fun _ => ⟨g, 0, rfl, hA, fun i hi => ?_⟩⟩
  obtain rfl : i = 0 := by simp at hi; omega
  refine ⟨.slice a m c, ⟨_, _, _, rfl⟩, fun j hj => ?_, hb⟩
  rw [show 0 + 0 * 9 + j = j by omega, h.cell j]
  rfl
theorem four_good : goodD ⟨[4], [.mk ⟨1, 4, 3, 0, 0, 0, 0, 0⟩ []], 1⟩ = true := by decide
theorem four_told : ∃ ps, toldS ⟨[4], [.mk ⟨1, 4, 3, 0, 0, 0, 0, 0⟩ []], 1⟩ = .ok [3] ps := by
  rw [told_good four_good]
  rw [if_neg (show ¬ fullS [4] = false by decide)]
  show ∃ ps, (match inferS true [] 0 [4] [.mk ⟨1, 4, 3, 0, 0, 0, 0, 0⟩ []] with | .bad e => Told.bad e | .ok x ps => if (1 : Int) = 1 ∧ x.length ≠ 1 then .bad 2 else .ok x ps) = Told.ok [3] ps
  rw [inferS, infer_plain (by decide)]
  unfold judgeS doesS
  simp only [if_true, List.length_singleton, lastI, Nat.sub_self, List.getD_cons_zero, List.take_zero, List.nil_append]
  rw [if_pos (by decide)]
  simp only
  rw [if_pos (by rw [Bool.and_eq_true]; exact ⟨by decide, by simp only [List.all_cons, List.all_nil]; decide⟩)]
  simp only [inferS]
  rw [if_neg (by decide)]
  exact ⟨_, rfl⟩
set_option maxHeartbeats 1000000 in
theorem wakes27 (w : World) : Calls Tryd.prog 16 #[] w fun e w' => e = .returned (.bool true) ∧ Ext w w' := by
  obtain ⟨ps, hps⟩ := four_told
  have x1 : Ext w ((w.alloc (.cells #[.int .i64 4] 3)).alloc (.cells #[.int .i64 1, .int .i64 4, .int .i64 3, .int .i64 0, .int .i64 0, .int .i64 0, .int .i64 0, .int .i64 0, .slice none 0 0] 52)) := ((Ext.refl w).alloc _).alloc _
  have b0 : Blk ((w.alloc (.cells #[.int .i64 4] 3)).alloc (.cells #[.int .i64 1, .int .i64 4, .int .i64 3, .int .i64 0, .int .i64 0, .int .i64 0, .int .i64 0, .int .i64 0, .slice none 0 0] 52)) w.heap.size 3 #[.int .i64 4] := (Blk.new w _ _).alloc _
  have b1 : Blk ((w.alloc (.cells #[.int .i64 4] 3)).alloc (.cells #[.int .i64 1, .int .i64 4, .int .i64 3, .int .i64 0, .int .i64 0, .int .i64 0, .int .i64 0, .int .i64 0, .slice none 0 0] 52)) (w.heap.size + 1) 52 #[.int .i64 1, .int .i64 4, .int .i64 3, .int .i64 0, .int .i64 0, .int .i64 0, .int .i64 0, .int .i64 0, .slice none 0 0] := by
    have h := Blk.new (w.alloc (.cells #[.int .i64 4] 3)) 52 #[.int .i64 1, .int .i64 4, .int .i64 3, .int .i64 0, .int .i64 0, .int .i64 0, .int .i64 0, .int .i64 0, .slice none 0 0]
    rwa [World.size_alloc] at h
  have DA : DefAt (fun b => b < w.heap.size + 2) 1 ((w.alloc (.cells #[.int .i64 4] 3)).alloc (.cells #[.int .i64 1, .int .i64 4, .int .i64 3, .int .i64 0, .int .i64 0, .int .i64 0, .int .i64 0, .int .i64 0, .slice none 0 0] 52)) (.agg #[.slice (some ⟨w.heap.size, 0, none⟩) 1 1, .slice (some ⟨w.heap.size + 1, 0, none⟩) 1 1, .int .i64 1]) ⟨[4], [.mk ⟨1, 4, 3, 0, 0, 0, 0, 0⟩ []], 1⟩ :=
    ⟨⟨_, _, _, _, rfl, ⟨_, _, rfl, by decide, by decide, fun _ => ⟨_, _, rfl, fun i hi => by
      obtain rfl : i = 0 := by have h : i < 1 := hi; omega
      exact b0.cells 0 rfl⟩⟩, LaysAt.one27 (n := 0) (f := ⟨1, 4, 3, 0, 0, 0, 0, 0⟩) b1 (by show _ < _; omega) (LaysAt.nil _ _ _ _ _)⟩, fun b hb => by
      show b < _
      rw [World.size_alloc, World.size_alloc]
      exact hb⟩
  have OU := Lib.hid (out_any DA)
  rw [hps] at OU
  clear DA b0 b1 hps x1
  go_enter Tryd.func16, Tryd.ntmps16
  go_wp2_with fail
  refine OU.out.mono ?_
  rintro e w2 ⟨xa, xc, rfl, x2, o2⟩
  have O2 := Lib.hid o2
  have x1 : Ext w w2 := Ext.tr (((Ext.refl w).alloc _).alloc _) x2
  clear OU o2 x2
  go_wp2_with (go_at_call 11; refine (num27_any _ _).mono ?_; rintro e w' ⟨rfl, rfl⟩)
  have R1 : Row .i64 (w2.alloc (.cells #[.int .i64 3] 3)) (.slice xa 1 xc) [3] := (Row.of_owns O2.out).1.ext ((Ext.refl w2).alloc _)
  have R2 : Row .i64 (w2.alloc (.cells #[.int .i64 3] 3)) (.slice (some ⟨w2.heap.size, 0, none⟩) 1 1) [3] := (fresh_own 0 rfl (Nat.zero_le _) [3] (by simp [maxLen]) |> Row.of_owns).1
  have EQ := Lib.hid (eqNumbers_any R1 R2)
  rw [decide_eq_true rfl] at EQ
  clear R1 R2
  refine EQ.out.mono ?_
  rintro e w3 ⟨rfl, nq, rfl⟩
  go_wp2
  go_ret
  exact ⟨rfl, (by repeat (first | with_reducible exact Ext.refl _ | with_reducible apply Ext.drew | with_reducible apply Ext.drewN | with_reducible apply Ext.alloc | ((with_reducible refine Ext.setCell ?_ ?_ _); rotate_left; focus (first | (simp; done) | (simp; omega) | omega)) | with_reducible refine Ext.tr ?_ x1 | with_reducible refine Ext.tr ?_ x2 | with_reducible refine Ext.tr ?_ xa | with_reducible refine Ext.tr ?_ xc | with_reducible refine Ext.tr ?_ hx | with_reducible assumption))⟩
end Go.Proofs.YtgokenbojppnhaaDoor
namespace Go.Proofs.YtgokenbojppnhaaDoor
open Go.RowKit
mutual
theorem infer_ne : ∀ (l : Lay) {first : Bool} {nm : Bs} {s : List Int} {e : Int}, l.infer first nm s = .bad e → e ≠ 0
  | .mk f b, first, nm, s, e, h => by
    rw [Lay.infer] at h
    by_cases h13 : f.kind = 13
    · simp only [if_pos h13] at h
      cases hb : inferS false (nm ++ [46]) 0 s b with
      | bad e' => rw [hb] at h; cases h; exact inferS_ne b hb
      | ok x ps =>
        rw [hb] at h
        simp only at h
        split at h
        · cases h
        · cases h; decide
    · simp only [if_neg h13] at h
      exact judge_bad h
theorem inferS_ne : ∀ (L : List Lay) {first : Bool} {ah : Bs} {k : Nat} {s : List Int} {e : Int}, inferS first ah k s L = .bad e → e ≠ 0
  | [], _, _, _, _, _, h => by simp [inferS] at h
  | l :: ls, first, ah, k, s, e, h => by
    rw [inferS] at h
    cases hb : l.infer first (ah ++ Lib.itoa (k : Int)) s with
    | bad e' => rw [hb] at h; cases h; exact infer_ne l hb
    | ok x ps =>
      rw [hb] at h
      simp only at h
      cases hc : inferS false ah (k + 1) x ls with
      | bad e' => rw [hc] at h; cases h; exact inferS_ne ls hc
      | ok y qs => rw [hc] at h; cases h
end
theorem told_ne {d : DefL} {e : Int} (h : toldS d = .bad e) : e ≠ 0 := by
  unfold toldS at h
  split at h
  · cases h; decide
  · split at h
    · cases h; decide
    · cases hc : inferS true [] 0 d.input d.layers with
      | bad e' => rw [hc] at h; cases h; exact inferS_ne _ hc
      | ok y qs =>
        rw [hc] at h
        simp only at h
        split at h
        · cases h; decide
        · cases h
theorem good_loss {d : DefL} (h : goodD d = true) : goodD ⟨d.input, d.layers, 2⟩ = true := by
  unfold goodD at *
  simp only [Bool.and_eq_true, decide_eq_true_eq] at *
  exact ⟨⟨⟨h.1.1.1, by simp⟩, h.1.2⟩, h.2⟩
theorem good_count64 {d : DefL} (h : goodD d = true) : countS d.layers ≤ 64 := by
  obtain ⟨l', hl⟩ := good_layers h
  rw [goods_count] at hl
  split at hl
  · rename_i h2; exact h2.2
  · cases hl
theorem count_one (f : LayF) (bd : List Lay) : countS [.mk f bd] = countS bd + 1 := by
  simp [countS, Lay.count]
theorem ParsAt.max {base : Nat} {w : World} {v : Value} {ps : List ParamP} (h : ParsAt base w v ps) : ps.length ≤ 9223372036854775807 := by
  obtain ⟨qs, rfl, h1, -⟩ := h
  rcases h1.2 with ⟨_, h0⟩ | ⟨g, cap, cur, e, -, hg, hc, hm, -⟩
  · omega
  · unfold maxLen at hm; omega
end Go.Proofs.YtgokenbojppnhaaDoor
namespace Go.Proofs.YtgokenbojppnhaaDoor
theorem does_names {f : LayF} {s o : List Int} {first : Bool} {nm : Bs} {ps : List ParamP} (h : doesS f s first nm = some (o, ps)) : (∀ p ∈ ps, ∃ c, p.name = nm ++ [46, c]) ∧ (ps.map ParamP.name).Nodup := by
  unfold doesS at h
  split at h
  · split at h
    · cases h; simp
    · cases h
  · split at h
    · cases hi : imageS f s with
      | none => rw [hi] at h; cases h
      | some p =>
        rw [hi] at h
        simp only at h
        split at h
        · cases h; simp
        · cases h
    · split at h
      · cases hi : imageS f s with
        | none => rw [hi] at h; cases h
        | some p =>
          rw [hi] at h
          cases h; simp
      · split at h
        · cases h; simp
        · split at h
          · split at h
            · cases h; simp
            · cases h
          · split at h
            · split at h
              · cases h; simp
              · cases h
            · cases h; simp
theorem judge_names {f : LayF} {s o : List Int} {first : Bool} {nm : Bs} {ps : List ParamP} (h : judgeS f s first nm = .ok o ps) : (∀ p ∈ ps, ∃ c, p.name = nm ++ [46, c]) ∧ (ps.map ParamP.name).Nodup := by
  unfold judgeS at h
  cases hd : doesS f s first nm with
  | none => rw [hd] at h; cases h
  | some q =>
    obtain ⟨o', ps'⟩ := q
    rw [hd] at h
    simp only at h
    split at h
    · cases h; exact does_names hd
    · cases h
mutual
theorem infer_len : ∀ (l : Lay) {deep left l' : Nat} {first : Bool} {nm : Bs} {s x : List Int} {ps : List ParamP}, l.good deep left = some l' → deep ≤ 4 → left ≤ 64 → l.infer first nm s = .ok x ps → ∀ p ∈ ps, p.name.length ≤ nm.length + 2 + 5 * (4 - deep)
  | .mk f b, deep, left, l', first, nm, s, x, ps, hg, hd, hl, h, p, hp => by
    by_cases h13 : f.kind = 13
    · obtain ⟨g1, g2, g3⟩ := good_body hg h13
      rw [infer_body h13] at h
      cases hb : inferS false (nm ++ [46]) 0 s b with
      | bad e => rw [hb] at h; cases h
      | ok y qs =>
        rw [hb] at h
        simp only at h
        split at h
        · cases h
          have hc : b.length ≤ 64 := by
            have h := g2
            rw [goods_count] at h
            split at h
            · rename_i h2; have := count_len b; omega
            · cases h
          have := inferS_len b g2 (by omega) (by omega) (show 0 + b.length ≤ 100 by omega) hb p hp
          rw [List.length_append, List.length_singleton] at this
          omega
        · cases h
    · rw [infer_plain h13] at h
      obtain ⟨c, hc⟩ := (judge_names h).1 p hp
      rw [hc, List.length_append]
      simp
theorem inferS_len : ∀ (L : List Lay) {deep left l' : Nat} {first : Bool} {ah : Bs} {k : Nat} {s x : List Int} {ps : List ParamP}, goodS deep left L = some l' → deep ≤ 4 → left ≤ 64 → k + L.length ≤ 100 → inferS first ah k s L = .ok x ps → ∀ p ∈ ps, p.name.length ≤ ah.length + 4 + 5 * (4 - deep)
  | [], _, _, _, _, _, _, _, _, _, _, _, _, _, h, p, hp => by simp [inferS] at h; rw [h.2] at hp; cases hp
  | l :: ls, deep, left, l', first, ah, k, s, x, ps, hg, hd, hl, hk, h, p, hp => by
    rw [goodS] at hg
    cases hm : l.good deep left with
    | none => rw [hm] at hg; cases hg
    | some m =>
      rw [hm] at hg
      simp only at hg
      have hml : m ≤ left := by
        have h := hm
        rw [good_count] at h
        split at h
        · cases h; omega
        · cases h
      rw [inferS] at h
      cases hb : l.infer first (ah ++ Lib.itoa (k : Int)) s with
      | bad e => rw [hb] at h; cases h
      | ok y qs =>
        rw [hb] at h
        simp only at h
        cases hc : inferS false ah (k + 1) y ls with
        | bad e => rw [hc] at h; cases h
        | ok z rs =>
          rw [hc] at h
          cases h
          simp only [List.length_cons] at hk
          rcases List.mem_append.1 hp with hp | hp
          · have h1 := infer_len l hm hd hl hb p hp
            rw [List.length_append, itoa_nat] at h1
            have := dec_len 1 k (by omega)
            omega
          · exact inferS_len ls hg hd (by omega) (by omega) hc p hp
end
theorem told_names {d : DefL} {x : List Int} {ps : List ParamP} (h : toldS d = .ok x ps) : ∀ p ∈ ps, p.name.length ≤ 24 := by
  unfold toldS at h
  split at h
  · cases h
  · rename_i hg
    have hg : goodD d = true := by simpa using hg
    split at h
    · cases h
    · cases hc : inferS true [] 0 d.input d.layers with
      | bad e' => rw [hc] at h; cases h
      | ok y qs =>
        rw [hc] at h
        simp only at h
        split at h
        · cases h
        · cases h
          obtain ⟨l', hl⟩ := good_layers hg
          intro p hp
          have hn : d.layers.length ≤ 64 := by
            have h := hl
            rw [goods_count] at h
            split at h
            · rename_i h2; have := count_len d.layers; omega
            · cases h
          have := inferS_len d.layers hl (by omega) (by omega) (show 0 + d.layers.length ≤ 100 by omega) hc p hp
          simp at this
          exact this
end Go.Proofs.YtgokenbojppnhaaDoor
