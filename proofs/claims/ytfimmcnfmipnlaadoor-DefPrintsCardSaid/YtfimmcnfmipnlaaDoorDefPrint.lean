/- def.text, Good, Print. -/
import Derived.Test.YtfimmcnfmipnlaaDoorDefGood
import Derived.Test.YtfimmcnfmipnlaaDoorShelf
import Derived.Lib.AppendIntMem
import Derived.Lib.SmallJoins
import Derived.Laws.Concat
namespace Go.Proofs.YtfimmcnfmipnlaaDoor
open Go.RowKit
/-- The library's table of powers of 10, as it was laid. -/
def TabW (w : World) : Prop := Lib.TabIs Tryd.prog w "internal/strconv.uint64pow10" .u64 Lib.pow10Tab
theorem TabW.ext {w w' : World} (h : TabW w) (x : Ext w w') : TabW w' :=
  Lib.tabBelow_of_tabIs h _ x
theorem itoa_any (x : Int) (h0 : 0 ≤ x) (h1 : x ≤ 9999) {w : World} (ht : TabW w) : Calls Tryd.prog 19 #[.int .i64 x] w fun e w' => e = .returned (.string (ba (Lib.itoa x))) ∧ Ext w w' :=
  (Tryd.strconv_Itoa x (by omega) (by omega) w ht).mono fun e w' h => by
    obtain ⟨rfl, k, os, rfl⟩ := h
    exact ⟨rfl, Lib.below_grow _ w (Nat.le_refl _) k os⟩
theorem add_ba {A B C : ByteArray} (h : A ++ B = C) (hs : A.size + B.size ≤ 1000000) : ∀ u : World, (Op.stringOp .add A B).run Tryd.prog u = .ok (.string C) u := fun u => by
  rw [run_string_add_sum u A B (by omega), h]
theorem ba_app (a b : Bs) : ba a ++ ba b = ba (a ++ b) := by
  unfold ba
  exact ByteArray.mk_append_mk a b
theorem dec_len : ∀ (k n : Nat), n < 10 ^ (k + 1) → (Lib.decDigits n).length ≤ k + 1
  | 0, n, h => by rw [Lib.decDigits, dif_pos (by omega)]; simp
  | k + 1, n, h => by
    rw [Lib.decDigits]
    split
    · simp
    · have := dec_len k (n / 10) (by rw [Nat.pow_succ] at h; omega)
      simp
      omega
theorem itoa_len {x : Int} (h0 : 0 ≤ x) (h1 : x ≤ 9999) : (Lib.itoa x).length ≤ 4 := by
  obtain ⟨n, rfl⟩ : ∃ n : Nat, x = n := ⟨x.toNat, by omega⟩
  rw [itoa_nat]
  exact dec_len 3 n (by omega)
theorem numsT_snoc (l : List Int) (x : Int) : numsT (l ++ [x]) = numsT l ++ numT x := by simp [numsT]
theorem numsT_len : ∀ (l : List Int), (∀ x ∈ l, 0 ≤ x ∧ x ≤ 9999) → (numsT l).length ≤ 5 * l.length
  | [], _ => by simp [numsT]
  | x :: l, h => by
    have h1 := numsT_len l (fun y hy => h y (by simp [hy]))
    have h2 := itoa_len (h x (by simp)).1 (h x (by simp)).2
    simp only [numsT, List.flatMap_cons, List.length_append, numT, List.length_cons] at h1 ⊢
    omega
theorem in_bounds {k : Nat} {f : LayF} (h : InB k f) : ∀ x ∈ (placesK k).map f.at, 0 ≤ x ∧ x ≤ 9999 := by
  intro x hx
  obtain ⟨j, hj, rfl⟩ := List.getElem_of_mem hx
  simp only [List.length_map] at hj
  have a := h j hj
  rw [List.getElem_map]
  have b : 0 ≤ lowK k j ∧ highK k ≤ 9999 := by
    unfold lowK highK
    constructor
    · split <;> omega
    · split <;> omega
  omega
theorem name_len (k : Nat) : (nameB k).length ≤ 9 := by unfold nameB; split <;> simp
theorem line_len {k : Nat} {f : LayF} (h : InB k f) : (lineT k f).length ≤ 40 := by
  have a := numsT_len _ (in_bounds h)
  have b := places_len k
  have c := name_len k
  rw [List.length_map] at a
  unfold lineT
  simp only [List.length_append, List.length_singleton]
  omega
mutual
theorem text_len : ∀ (l : Lay) {deep left l' : Nat}, l.good deep left = some l' → l.text.length + 40 * l' ≤ 40 * left
  | .mk f b, deep, left, l', h => by
    rw [Lay.good] at h
    rw [Lay.text]
    split at h
    · cases h
    rename_i h0
    split at h
    · rename_i hk
      rw [if_pos hk]
      split at h
      · have := texts_len b h
        have n1 : (nameB 13).length = 8 := rfl
        have n2 : endB.length = 3 := rfl
        simp only [List.length_append, List.length_singleton, n1, n2]
        omega
      · cases h
    · rename_i hk
      rw [if_neg hk]
      cases hkt : kindT f.kind with
      | none => rw [hkt] at h; cases h
      | some k =>
        rw [hkt] at h
        simp only at h ⊢
        split at h
        · rename_i hok
          cases h
          have hm : k ∈ kindsT := List.mem_of_find?_eq_some hkt
          have he : (k : Int) = f.kind := by simpa using List.find?_some hkt
          have := line_len ((okF_iff hm he.symm).1 hok.1).1
          omega
        · cases h
theorem texts_len : ∀ (ls : List Lay) {deep left l' : Nat}, goodS deep left ls = some l' → (textS ls).length + 40 * l' ≤ 40 * left
  | [], _, _, _, h => by simp [goodS] at h; simp [textS, h]
  | l :: ls, deep, left, l', h => by
    rw [goodS] at h
    cases h1 : l.good deep left with
    | none => rw [h1] at h; cases h
    | some l1 =>
      rw [h1] at h
      have a := text_len l h1
      have b := texts_len ls h
      rw [textS, List.length_append]
      omega
end
theorem kinds_inj : ∀ i, i < 12 → ∀ j, j < 12 → kindsT.getD i 0 = kindsT.getD j 0 → i = j := by decide
def TextOk (n : Nat) : Prop := ∀ (A : Nat → Prop) (v : Value) (L : List Lay) (deep lf l' : Nat) (w : World), LaysAt A w n v L → goodS deep lf L = some l' → lf ≤ 64 → TabW w →
  Calls Tryd.prog 20 #[v] w fun e w' => e = .returned (.string (ba (textS L))) ∧ Ext w w'
set_option maxHeartbeats 100000000 in
set_option maxRecDepth 100000 in
theorem text_step (n : Nat) (IH : ∀ m, n = m + 1 → TextOk m) : TextOk n := by
  intro A v L deep lf l' w hL hG hlf hT
  obtain ⟨a1, c1, rfl⟩ := hL.form
  have HLY := Lib.hid hL
  have HTB := Lib.hid hT
  have HG := Lib.hid hG
  have hm : L.length ≤ 9223372036854775807 := by
    cases n with
    | zero => rw [hL.1]; simp
    | succ n => obtain ⟨_, _, _, h, _⟩ := hL; unfold maxLen at h; omega
  have LEN : ∀ k, (textS (L.take k)).length ≤ 2560 := fun k => by
    have a := texts_len L hG
    have b : textS L = textS (L.take k) ++ textS (L.drop k) := by rw [← textS_append, List.take_append_drop]
    rw [b, List.length_append] at a
    omega
  have HLEN := Lib.hid LEN
  clear hL hG hT LEN
  go_enter Tryd.func20, Tryd.ntmps20
  go_wp2_with fail
  go_loopw [2, 11] (fun s c wr => ∃ (k lf' : Nat), k ≤ L.length ∧ c = .int .i64 k ∧ s = .string (ba (textS (L.take k))) ∧ goodS deep lf' (L.drop k) = some l' ∧ lf' ≤ 64 ∧ Ext w wr) (fun _ c _ => L.length - (intOf c).toNat)
  case atStart => exact ⟨0, lf, Nat.zero_le _, rfl, rfl, HG.out, hlf, Ext.refl _⟩
  case round =>
    obtain ⟨k, lf', hk, rfl, rfl, hr, hlf', hext⟩ := hrel
    have RD := Lib.hid hr
    obtain ⟨wo, rfl⟩ : ∃ wo : World, wo = wr := ⟨_, rfl⟩
    clear hr HG
    rcases Nat.lt_or_ge k L.length with hlt | hge
    · have hkz : (k : Int) < (L.length : Int) := by omega
      cases n with
      | zero => rw [HLY.out.1] at hlt; exact absurd hlt (Nat.not_lt_zero _)
      | succ n =>
        obtain ⟨_, _, e1, -, q1⟩ := HLY.out
        cases e1
        obtain ⟨b, o, rfl, hb, r1⟩ := q1 (by intro e; rw [e] at hlt; simp at hlt)
        obtain ⟨bv, -, t1, s1⟩ := r1 k hlt
        obtain ⟨y0, y1, y2, y3, y4, y5, y6, y7, y8⟩ := nine t1
        have z0 := hext.cell y0
        have z1 := hext.cell y1
        have z2 := hext.cell y2
        have z3 := hext.cell y3
        have z4 := hext.cell y4
        have z5 := hext.cell y5
        have z6 := hext.cell y6
        have z7 := hext.cell y7
        have z8 := hext.cell y8
        have zb := cell_lt z0
        simp only at zb
        have DR := Lib.hid (List.drop_eq_getElem_cons hlt)
        have S1 := Lib.hid (s1.ext hext)
        obtain ⟨f, hf⟩ : ∃ f, L[k].f = f := ⟨_, rfl⟩
        obtain ⟨bd, hbd⟩ : ∃ bd, L[k].b = bd := ⟨_, rfl⟩
        have EL := Lib.hid (show L[k] = .mk f bd by rw [← hf, ← hbd]; cases L[k]; rfl)
        have TK := Lib.hid (show textS (L.take (k + 1)) = textS (L.take k) ++ (Lay.mk f bd).text by rw [take_sn hlt, textS_append, EL.out, textS, textS, List.append_nil])
        have LK := HLEN.out (k + 1)
        rw [TK.out, List.length_append] at LK
        rw [hf] at z0 z1 z2 z3 z4 z5 z6 z7
        rw [hbd] at S1
        obtain ⟨ab, cb, rfl⟩ := S1.out.form
        obtain ⟨l1, g1, g2⟩ : ∃ l1, (Lay.mk f bd).good deep lf' = some l1 ∧ goodS deep l1 (L.drop (k + 1)) = some l' := by
          have h := RD.out
          rw [DR.out, EL.out, goodS] at h
          cases hg : (Lay.mk f bd).good deep lf' with
          | none => rw [hg] at h; cases h
          | some l1 => rw [hg] at h; exact ⟨l1, rfl, h⟩
        have h64 : l1 ≤ 64 := by have := good_le _ g1; omega
        have G2 := Lib.hid g2
        have XO := Lib.hid hext
        have TB1 := Lib.hid (HTB.out.ext hext)
        obtain ⟨s0, hs0⟩ : ∃ s0, textS (L.take k) = s0 := ⟨_, rfl⟩
        rw [hs0] at TK LK ⊢
        obtain ⟨S, hS⟩ : ∃ S, ba s0 = S := ⟨_, rfl⟩
        have HS := Lib.hid hS
        have SZ : S.size = s0.length := by rw [← hS]; exact ba_size s0
        have SZ2 := Lib.hid SZ
        rw [hS]
        have X1 : Ext wo (wo.alloc (.cells #[.int .i64 f.kind, .int .i64 f.inn, .int .i64 f.out, .int .i64 f.size, .int .i64 f.stride, .int .i64 f.pad, .int .i64 f.percent, .int .i64 f.heads, .slice ab bd.length cb] 49)) := (Ext.refl _).alloc _
        rw [Lay.good] at g1
        clear y0 y1 y2 y3 y4 y5 y6 y7 y8 t1 s1 q1 r1 hf hbd RD DR EL HLY hs0 hS SZ HLEN
        by_cases h0 : lf' = 0
        · rw [if_pos h0] at g1; cases g1
        · rw [if_neg h0] at g1
          by_cases hk13 : f.kind = 13
          · rw [if_pos hk13] at g1
            have kz : (f.kind == 13) = true := by rw [hk13]; rfl
            by_cases hcond : deep < 4 ∧ f = LayF.kind0 13
            · rw [if_pos hcond] at g1
              have TX : (Lay.mk f bd).text = nameB 13 ++ [10] ++ textS bd ++ endB ++ [10] := by rw [Lay.text, if_pos hk13]
              rw [TX] at TK LK
              have IC := Lib.hid (IH n rfl A (.slice ab bd.length cb) bd (deep + 1) (lf' - 1) l1 _ (S1.out.ext X1) g1 (by omega) (TB1.out.ext X1))
              obtain ⟨tb, htb⟩ : ∃ tb, textS bd = tb := ⟨_, rfl⟩
              rw [htb] at IC TK LK
              have LB : tb.length ≤ 2560 := by simp only [List.length_append] at LK; omega
              obtain ⟨T, hT⟩ : ∃ T, ba tb = T := ⟨_, rfl⟩
              rw [hT] at IC
              obtain ⟨T1, hT1⟩ : ∃ T1, ba (nameB 13 ++ [10] ++ tb) = T1 := ⟨_, rfl⟩
              obtain ⟨T2, hT2⟩ : ∃ T2, ba (nameB 13 ++ [10] ++ tb ++ (endB ++ [10])) = T2 := ⟨_, rfl⟩
              obtain ⟨S', hS'⟩ : ∃ S', ba (s0 ++ (nameB 13 ++ [10] ++ tb ++ (endB ++ [10]))) = S' := ⟨_, rfl⟩
              have nl : (nameB 13 ++ [10]).length = 9 := rfl
              have el : (endB ++ [10]).length = 4 := rfl
              have ad1 : ∀ u : World, (Op.stringOp .add ⟨#[114, 101, 115, 105, 100, 117, 97, 108, 10]⟩ T).run Tryd.prog u = .ok (.string T1) u := add_ba (by rw [← hT, ← hT1]; exact ba_app (nameB 13 ++ [10]) tb) (by rw [← hT, ba_size]; show 9 + _ ≤ _; omega)
              have ad2 : ∀ u : World, (Op.stringOp .add T1 ⟨#[101, 110, 100, 10]⟩).run Tryd.prog u = .ok (.string T2) u := add_ba (by rw [← hT1, ← hT2]; exact ba_app _ (endB ++ [10])) (by rw [← hT1, ba_size, List.length_append, nl]; show _ + 4 ≤ _; omega)
              have ad3 : ∀ u : World, (Op.stringOp .add S T2).run Tryd.prog u = .ok (.string S') u := add_ba (by rw [← HS.out, ← hT2, ← hS']; exact ba_app _ _) (by rw [SZ2.out, ← hT2, ba_size, List.length_append, List.length_append, nl, el]; simp only [List.length_append] at LK; omega)
              have FIN := Lib.hid (show ba (textS (L.take (k + 1))) = S' by rw [TK.out, ← hS']; congr 1; simp)
              clear hT hT1 hT2 hS' TK LK TX hcond g1 S1 htb hk13
              go_wp2_with fail
              refine IC.out.mono ?_
              rintro e w2 ⟨rfl, x2⟩
              have XF := Lib.hid (XO.out.tr (X1.tr x2))
              clear IC X1 z0 z1 z2 z3 z4 z5 z6 z7 z8
              go_wp2_with fail
              exact ⟨⟨k + 1, l1, by omega, by go_num, by rw [FIN.out], G2.out, h64, XF.out⟩, by simp [intOf]; omega⟩
            · rw [if_neg hcond] at g1; cases g1
          · rw [if_neg hk13] at g1
            have kz : (f.kind == 13) = false := by simpa using hk13
            obtain ⟨q, hq⟩ : ∃ q, kindT f.kind = some q := by
              cases h : kindT f.kind with
              | none => rw [h] at g1; cases g1
              | some q => exact ⟨q, rfl⟩
            rw [hq] at g1
            simp only at g1
            by_cases hcond : okF q f = true ∧ bd.isEmpty = true
            · rw [if_pos hcond] at g1
              have hqm : q ∈ kindsT := List.mem_of_find?_eq_some hq
              have hqe : (q : Int) = f.kind := by simpa using List.find?_some hq
              have hin := ((okF_iff hqm hqe.symm).1 hcond.1).1
              have TX : (Lay.mk f bd).text = lineT q f := by rw [Lay.text, if_neg hk13, hq]
              rw [TX] at TK LK
              obtain ⟨i0, hi0, hq0⟩ : ∃ i0, i0 < 12 ∧ kindsT.getD i0 0 = q := by
                obtain ⟨i0, hi0, h⟩ := List.getElem_of_mem hqm
                exact ⟨i0, hi0, by rw [List.getD_eq_getElem?_getD, List.getElem?_eq_getElem hi0]; exact h⟩
              have UNI := Lib.hid (fun i (hi : i < 12) (h : (kindsT.getD i 0 : Int) = f.kind) => (show i = i0 from kinds_inj i hi i0 hi0 (by rw [hq0]; omega)))
              have HQ0 := Lib.hid hq0
              have HQE := Lib.hid hqe
              have BNDS := Lib.hid (in_bounds hin)
              have LK' : s0.length + (lineT q f).length ≤ 2560 := LK
              have L1 := Lib.hid (show l1 = lf' - 1 by cases g1; rfl)
              have BW := Lib.hid (Blk.new wo 49 (layA f (.slice ab bd.length cb)))
              clear hcond hq hqm hin TX LK S1 g1 hk13 hqe hq0
              go_wp2_with fail
              refine (rows_any _).mono ?_
              rintro e v1 ⟨B, rfl, x1, hB0, tab⟩
              have BY1 := Lib.hid (BW.out.ext x1)
              have TB2 := Lib.hid ((TB1.out.ext X1).ext x1)
              have XO1 := Lib.hid ((XO.out.tr X1).tr x1)
              have TAB := Lib.hid tab
              have zx1 : wo.heap.size < v1.heap.size := BY1.out.lt
              obtain ⟨Y, hY⟩ : ∃ Y, wo.heap.size = Y := ⟨_, rfl⟩
              rw [hY] at BY1 zx1 ⊢
              clear hB0 tab BW TB1 X1 x1 z0 z1 z2 z3 z4 z5 z6 z7 z8 hext hY zb
              go_wp2_with fail
              go_loopw [2, 27] (fun s c wr => ∃ i : Nat, i ≤ 12 ∧ c = .int .i64 i ∧ s = .string (ba (s0 ++ if i0 < i then lineT q f else [])) ∧ Ext v1 wr) (fun _ c _ => 12 - (intOf c).toNat)
              case atStart => exact ⟨0, Nat.zero_le _, rfl, by rw [if_neg (Nat.not_lt_zero _), List.append_nil, HS.out], Ext.refl _⟩
              case round =>
                obtain ⟨i, hi, rfl, rfl, hex⟩ := hrel
                obtain ⟨wq, rfl⟩ : ∃ wq : World, wq = wr := ⟨_, rfl⟩
                have XV := Lib.hid hex
                have BY2 := Lib.hid (BY1.out.ext hex)
                obtain ⟨k0, -⟩ := BY2.out.lay
                have zY : Y < wq.heap.size := cell_lt k0
                rcases Nat.lt_or_ge i 12 with hlt12 | hge12
                · have hz : (i : Int) < 12 := by omega
                  have row := (TAB.out i hlt12).ext hex
                  have e0 := row.kind
                  have e1 := row.word
                  obtain ⟨_, _, _, e2, e3, e4, ⟨aa, qa, rfl, -, -, ra⟩, ⟨al, ql, rfl, -, -, rl⟩, ⟨ah, qh, rfl, -, -, rh⟩, rb⟩ := row.rest
                  clear row hex rl rh rb
                  rw [List.length_map] at e2 ra
                  rw [lows_len] at e3
                  rw [highs_len] at e4
                  have pn : (placesK (kindsT.getD i 0)).length ≤ 5 := places_len _
                  have RA := Lib.hid ra
                  have zB : B < wq.heap.size := cell_lt e0
                  have UNI' := Lib.hid (UNI.out i hlt12)
                  clear ra
                  by_cases e : (kindsT.getD i 0 : Int) = f.kind
                  · obtain rfl : i = i0 := UNI'.out e
                    rw [HQ0.out] at e0 e1 e2 e3 e4 RA pn
                    have hqf : ((q : Int) != f.kind) = false := by rw [bne, beq_iff_eq.2 HQE.out]; rfl
                    have S00 : ba (s0 ++ if i < i then lineT q f else []) = S := by rw [if_neg (Nat.lt_irrefl _), List.append_nil]; exact HS.out
                    rw [S00]
                    clear S00 UNI' UNI e TAB
                    obtain ⟨N, hN⟩ : ∃ N, ba (nameB q) = N := ⟨_, rfl⟩
                    rw [hN] at e1
                    obtain ⟨SN, hSN⟩ : ∃ SN, ba (s0 ++ nameB q) = SN := ⟨_, rfl⟩
                    have ad1 : ∀ u : World, (Op.stringOp .add S N).run Tryd.prog u = .ok (.string SN) u := add_ba (by rw [← HS.out, ← hN, ← hSN]; exact ba_app _ _) (by rw [SZ2.out, ← hN, ba_size]; have := name_len q; omega)
                    have HSN := Lib.hid hSN
                    clear hN hSN
                    obtain ⟨W2, hW2⟩ : ∃ W2 : World, wq.alloc (.cells #[.int .i64 q, .string N, .slice aa (placesK q).length qa, .slice al (placesK q).length ql, .slice ah (placesK q).length qh] 65) = W2 := ⟨_, rfl⟩
                    have X2 : Ext wq W2 := by rw [← hW2]; exact (Ext.refl _).alloc _
                    have BY3 := Lib.hid (BY2.out.ext X2)
                    have BX2 : Blk W2 wq.heap.size 65 #[.int .i64 q, .string N, .slice aa (placesK q).length qa, .slice al (placesK q).length ql, .slice ah (placesK q).length qh] := by rw [← hW2]; exact Blk.new wq _ _
                    have x0 : W2.cell? ⟨wq.heap.size, 0, none⟩ = some (.int .i64 q) := BX2.cell 0
                    have xx1 : W2.cell? ⟨wq.heap.size, 1, none⟩ = some (.string N) := BX2.cell 1
                    have xx2 : W2.cell? ⟨wq.heap.size, 2, none⟩ = some (.slice aa (placesK q).length qa) := BX2.cell 2
                    have zX2 := BX2.lt
                    have kY := X2.cell k0
                    have zY2 : Y < W2.heap.size := cell_lt kY
                    have TB3 := Lib.hid ((TB2.out.ext XV.out).ext X2)
                    have XR := Lib.hid X2
                    have hz64 : (placesK q).length ≤ 9223372036854775807 := by omega
                    have LL' : (lineT q f).length = (nameB q).length + (numsT ((placesK q).map f.at)).length + 1 := by unfold lineT; rw [List.length_append, List.length_append]; rfl
                    have NT : ∀ j, (numsT (((placesK q).map f.at).take j)).length ≤ (numsT ((placesK q).map f.at)).length := fun j => by
                      have e : numsT ((placesK q).map f.at) = numsT (((placesK q).map f.at).take j) ++ numsT (((placesK q).map f.at).drop j) := by
                        unfold numsT
                        rw [← List.flatMap_append, List.take_append_drop]
                      rw [e, List.length_append]
                      omega
                    have NTH := Lib.hid NT
                    clear NT X2 BY2 BX2
                    go_wp2_with fail
                    clear hW2 ad1 e0 e1 e2 e3 e4 k0 x0 xx1 xx2 kY
                    go_loopw [2, 43] (fun s c wr => ∃ j : Nat, j ≤ (placesK q).length ∧ c = .int .i64 j ∧ s = .string (ba (s0 ++ nameB q ++ numsT (((placesK q).map f.at).take j))) ∧ Ext W2 wr) (fun _ c _ => (placesK q).length - (intOf c).toNat)
                    case atStart => exact ⟨0, Nat.zero_le _, rfl, by rw [List.take_zero, show numsT [] = [] from rfl, List.append_nil, HSN.out], Ext.refl _⟩
                    case round =>
                      obtain ⟨j, hj, rfl, rfl, hej⟩ := hrel
                      obtain ⟨V, rfl⟩ : ∃ V : World, V = wr := ⟨_, rfl⟩
                      have XJ := Lib.hid hej
                      have NTJ := NTH.out (j + 1)
                      have NTJ0 := NTH.out j
                      obtain ⟨Z, hZ⟩ : ∃ Z, ba (s0 ++ nameB q ++ numsT (((placesK q).map f.at).take j)) = Z := ⟨_, rfl⟩
                      have HZ := Lib.hid hZ
                      have zZ : Z.size = s0.length + (nameB q).length + (numsT (((placesK q).map f.at).take j)).length := by rw [← hZ, ba_size]; simp only [List.length_append]
                      have HZS := Lib.hid zZ
                      rw [hZ]
                      clear hZ zZ
                      rcases Nat.lt_or_ge j (placesK q).length with hjl | hjg
                      · have hjz : (j : Int) < ((placesK q).length : Int) := by omega
                        have nep : placesK q ≠ [] := fun e => absurd hjl (by rw [e]; exact Nat.not_lt_zero j)
                        obtain ⟨ba1, oa1, rfl, ca⟩ := RA.out (by simpa using nep)
                        have ja := (ca j hjl).trans (show ((placesK q).map fnV)[j]? = some (fnV (placesK q)[j]) by rw [List.getElem?_map, List.getElem?_eq_getElem hjl]; rfl)
                        have fa := hej.cell (XR.out.cell ja)
                        have za := cell_lt fa
                        simp only at za
                        have PK := places_ok (k := q) (List.getElem_mem hjl)
                        have hjm : j < ((placesK q).map f.at).length := by rw [List.length_map]; exact hjl
                        have TS := Lib.hid (show numsT (((placesK q).map f.at).take (j + 1)) = numsT (((placesK q).map f.at).take j) ++ numT (f.at (placesK q)[j]) by rw [take_sn hjm, numsT_snoc, List.getElem_map])
                        have BD := BNDS.out (f.at (placesK q)[j]) (List.mem_map.2 ⟨_, List.getElem_mem hjl, rfl⟩)
                        rw [TS.out, List.length_append] at NTJ
                        obtain ⟨p, hp⟩ : ∃ p, (placesK q)[j] = p := ⟨_, rfl⟩
                        rw [hp] at PK fa TS BD NTJ
                        replace fa : V.cell? ⟨ba1, oa1 + j, none⟩ = some (.func (.func (fieldFn p)) #[] #[]) := fa
                        obtain ⟨P1, P2⟩ := PK
                        have BYV := BY3.out.ext hej
                        have zYV : Y < V.heap.size := BYV.lt
                        have lc := (BYV.cell p).trans (layA_at f _ (by omega))
                        obtain ⟨x, hx⟩ : ∃ x, f.at p = x := ⟨_, rfl⟩
                        rw [hx] at lc TS BD NTJ
                        have FA := Lib.hid (fun u => field_any P1 P2 Y u)
                        have IT := Lib.hid (itoa_any x BD.1 BD.2 (TB3.out.ext hej))
                        obtain ⟨I, hI⟩ : ∃ I, ba (Lib.itoa x) = I := ⟨_, rfl⟩
                        rw [hI] at IT
                        obtain ⟨I1, hI1⟩ : ∃ I1, ba (numT x) = I1 := ⟨_, rfl⟩
                        obtain ⟨Z2, hZ2⟩ : ∃ Z2, ba (s0 ++ nameB q ++ numsT (((placesK q).map f.at).take (j + 1))) = Z2 := ⟨_, rfl⟩
                        have LI := itoa_len BD.1 BD.2
                        have LN1 : (numT x).length = (Lib.itoa x).length + 1 := by simp [numT]
                        have ad1 : ∀ u : World, (Op.stringOp .add ⟨#[32]⟩ I).run Tryd.prog u = .ok (.string I1) u := add_ba (by rw [← hI, ← hI1]; exact ba_app [32] (Lib.itoa x)) (by rw [← hI, ba_size]; show 1 + _ ≤ _; omega)
                        have ad2 : ∀ u : World, (Op.stringOp .add Z I1).run Tryd.prog u = .ok (.string Z2) u := add_ba (by rw [← HZ.out, ← hI1, ← hZ2, ba_app, TS.out]; congr 1; simp) (by rw [HZS.out, ← hI1, ba_size]; omega)
                        have HZ2 := Lib.hid hZ2
                        clear ca nep ja hp hx hI hI1 hZ2 hjm BYV
                        go_wp2_with fail
                        rw [field_enters P1 P2]
                        change Calls _ _ _ _ _
                        refine (FA.out _).mono ?_
                        rintro e w' ⟨rfl, rfl⟩
                        clear FA
                        go_wp2_with fail
                        refine IT.out.mono ?_
                        rintro e w' ⟨rfl, x9⟩
                        have XF := Lib.hid (XJ.out.tr x9)
                        clear IT
                        go_wp2_with fail
                        exact ⟨⟨j + 1, by omega, by go_num, by rw [HZ2.out], XF.out⟩, by simp [intOf]; omega⟩
                      · obtain rfl : j = (placesK q).length := by omega
                        have hjz : ¬ ((placesK q).length : Int) < ((placesK q).length : Int) := by omega
                        obtain ⟨Z2, hZ2⟩ : ∃ Z2, ba (s0 ++ if i < i + 1 then lineT q f else []) = Z2 := ⟨_, rfl⟩
                        have EQ : ba (s0 ++ nameB q ++ numsT (((placesK q).map f.at).take (placesK q).length)) ++ ba [10] = Z2 := by
                          rw [← hZ2, if_pos (Nat.lt_succ_self i), ba_app]
                          congr 1
                          rw [List.take_of_length_le (by rw [List.length_map]; exact Nat.le_refl _)]
                          unfold lineT
                          simp
                        have ad1 : ∀ u : World, (Op.stringOp .add Z ⟨#[10]⟩).run Tryd.prog u = .ok (.string Z2) u := add_ba (by rw [← HZ.out]; exact EQ) (by rw [HZS.out]; show _ + 1 ≤ _; omega)
                        have HZ2 := Lib.hid hZ2
                        have XF := Lib.hid (XV.out.tr (XR.out.tr hej))
                        clear hZ2 EQ RA NTJ NTJ0
                        go_wp2_with fail
                        exact ⟨⟨i + 1, by omega, by go_num, by rw [HZ2.out], XF.out⟩, by simp [intOf]; omega⟩
                  · have hqf : ((kindsT.getD i 0 : Int) != f.kind) = true := by rw [bne, beq_eq_false_iff_ne.2 e]; rfl
                    have ST := Lib.hid (show ba (s0 ++ if i0 < i then lineT q f else []) = ba (s0 ++ if i0 < i + 1 then lineT q f else []) by
                      have hne : i ≠ i0 := fun h => e (by rw [h, HQ0.out]; exact HQE.out)
                      by_cases h : i0 < i
                      · rw [if_pos h, if_pos (by omega)]
                      · rw [if_neg h, if_neg (by omega)])
                    obtain ⟨Z, hZ⟩ : ∃ Z, ba (s0 ++ if i0 < i then lineT q f else []) = Z := ⟨_, rfl⟩
                    rw [hZ] at ST ⊢
                    generalize kindsT.getD i 0 = kk at *
                    obtain ⟨N, hN⟩ : ∃ N, ba (nameB kk) = N := ⟨_, rfl⟩
                    rw [hN] at e1
                    clear hN hZ e UNI' RA TAB
                    go_wp2_with fail
                    exact ⟨⟨i + 1, by omega, by go_num, by rw [← ST.out], XV.out.tr (by repeat (first | with_reducible exact Ext.refl _ | with_reducible apply Ext.drew | with_reducible apply Ext.drewN | with_reducible apply Ext.alloc | ((with_reducible refine Ext.setCell ?_ ?_ _); rotate_left; focus (first | (simp; done) | (simp; omega) | omega)) | with_reducible refine Ext.tr ?_ x1 | with_reducible refine Ext.tr ?_ x2 | with_reducible refine Ext.tr ?_ x9 | with_reducible refine Ext.tr ?_ hx | with_reducible refine Ext.tr ?_ hext | with_reducible assumption))⟩, by simp [intOf]; omega⟩
                · obtain rfl : i = 12 := by omega
                  have hz : ¬ (12 : Int) < 12 := by omega
                  have FIN := Lib.hid (show ba (s0 ++ if i0 < 12 then lineT q f else []) = ba (textS (L.take (k + 1))) by rw [if_pos hi0, TK.out])
                  obtain ⟨Z, hZ⟩ : ∃ Z, ba (s0 ++ if i0 < 12 then lineT q f else []) = Z := ⟨_, rfl⟩
                  rw [hZ] at FIN ⊢
                  clear hZ TAB UNI BNDS
                  go_wp2_with fail
                  exact ⟨⟨k + 1, l1, by omega, by go_num, by rw [FIN.out], G2.out, h64, XO1.out.tr XV.out⟩, by simp [intOf]; omega⟩
            · rw [if_neg hcond] at g1; cases g1
    · have hkz : ¬ (k : Int) < (L.length : Int) := by omega
      rw [List.take_of_length_le hge]
      obtain ⟨S, hS⟩ : ∃ S, ba (textS L) = S := ⟨_, rfl⟩
      have HSX := Lib.hid hS
      rw [hS]
      clear hS RD HLEN HLY
      go_wp2_with fail
      go_ret
      exact ⟨by rw [HSX.out]; rfl, hext⟩
end Go.Proofs.YtfimmcnfmipnlaaDoor
