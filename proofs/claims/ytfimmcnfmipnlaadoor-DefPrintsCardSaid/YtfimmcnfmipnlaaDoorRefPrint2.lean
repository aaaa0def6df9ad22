/- ratchetref90.Text of numbers from 0 on; ratchetref26.row. ratchetref26.printed, Print: a good definition's text. -/
import Derived.Test.YtfimmcnfmipnlaaDoorNText2
import Derived.Test.YtfimmcnfmipnlaaDoorInts
import Derived.Test.YtfimmcnfmipnlaaDoorDefPrint
import Derived.Test.YtfimmcnfmipnlaaDoorDefMay
import Derived.Test.YtfimmcnfmipnlaaDoorRefMay1
import Derived.Test.YtfimmcnfmipnlaaDoorRefMay3
import Derived.Test.YtfimmcnfmipnlaaDoorDefPrint3
namespace Go.Proofs.YtfimmcnfmipnlaaDoor
open Go.RowKit
set_option maxHeartbeats 2000000 in
theorem Text_pos {v : Value} {x : Int} {L G : Nat} {w : World} (h : IntAt w v x L) (hx : 0 ≤ x) (hL : L ≤ 1000000) (hG : x < 10 ^ (9 * G)) (hG2 : G ≤ 1000) :
    Calls Tryd.prog 39 #[v] w fun e w' => e = .returned (.string (ba (Lib.itoa x))) ∧ Ext w w' := by
  obtain ⟨m, rfl, hm⟩ := h.is
  obtain ⟨a, k, cap, rfl, -⟩ := hm.form
  rw [show mag x = x by rw [mag, if_neg (by omega)]] at hm
  rw [show decide (x < 0) = false by simp; omega, show Lib.itoa x = Lib.decDigits x.toNat by unfold Lib.itoa; rw [if_neg (by omega)]]
  have NT := Lib.hid (fun u (e : Ext w u) => NText_any (hm.ext e) hL hG hG2)
  clear h hm
  go_enter Tryd.func39, Tryd.ntmps39
  go_wp2_with fail
  refine (NT.out _ (by repeat (first | with_reducible exact Ext.refl _ | with_reducible apply Ext.drew | with_reducible apply Ext.drewN | with_reducible apply Ext.alloc | ((with_reducible refine Ext.setCell ?_ ?_ _); rotate_left; focus (first | (simp; done) | (simp; omega) | omega)) | with_reducible refine Ext.tr ?_ x1 | with_reducible refine Ext.tr ?_ x2 | with_reducible refine Ext.tr ?_ hx | with_reducible refine Ext.tr ?_ hext | with_reducible assumption))).mono ?_
  rintro e v1 ⟨rfl, x1⟩
  clear NT
  go_wp2
  go_ret
  exact ⟨rfl, (by repeat (first | with_reducible exact Ext.refl _ | with_reducible apply Ext.drew | with_reducible apply Ext.drewN | with_reducible apply Ext.alloc | ((with_reducible refine Ext.setCell ?_ ?_ _); rotate_left; focus (first | (simp; done) | (simp; omega) | omega)) | with_reducible refine Ext.tr ?_ x1 | with_reducible refine Ext.tr ?_ x2 | with_reducible refine Ext.tr ?_ hx | with_reducible refine Ext.tr ?_ hext | with_reducible assumption))⟩
set_option maxHeartbeats 4000000 in
theorem rowR_any {W : Bs} {ns : List Int} {v : Value} {w : World} {S : ByteArray} (h : RowV w v (intsV ns)) (hW : W.length ≤ 20) (hn : ns.length ≤ 5) (hb : ∀ x ∈ ns, 0 ≤ x ∧ x ≤ 9999) (hS : ba W = S) :
    Calls Tryd.prog 23 #[.string S, v] w fun e w' => e = .returned (.string (ba (W ++ numsT ns ++ [10]))) ∧ Ext w w' := by
  have RW := Lib.hid h
  obtain ⟨a, cap, rfl, -, -, -⟩ := h
  have hln : (intsV ns).length = ns.length := by simp [intsV]
  rw [hln] at RW ⊢
  have HS := Lib.hid hS
  have HB := Lib.hid hb
  have NL := Lib.hid (fun k => (numsT_len (ns.take k) (fun x hx => hb x (List.mem_of_mem_take hx))))
  clear hln hS hb
  go_enter Tryd.func23, Tryd.ntmps23
  go_wp2_with fail
  go_loopw [5, 6] (fun s i wr => ∃ k : Nat, k ≤ ns.length ∧ i = .int .i64 k ∧ s = .string (ba (W ++ numsT (ns.take k))) ∧ Ext w wr) (fun _ i _ => ns.length - (intOf i).toNat)
  case atStart => exact ⟨0, Nat.zero_le _, rfl, by rw [List.take_zero, numsT, List.flatMap_nil, List.append_nil, HS.out], Ext.refl _⟩
  case round =>
    obtain ⟨k, hk, rfl, rfl, hx⟩ := hrel
    obtain ⟨Z, hZ⟩ : ∃ Z, ba (W ++ numsT (ns.take k)) = Z := ⟨_, rfl⟩
    have zl : (W ++ numsT (ns.take k)).length ≤ 50 := by
      have := NL.out k
      rw [List.length_take] at this
      rw [List.length_append]; omega
    rw [hZ]
    rcases Nat.lt_or_ge k ns.length with hlt | hge
    · have hkz : (k : Int) < (ns.length : Int) := by omega
      obtain ⟨g, o, rfl, c0⟩ := intsV_at RW.out hlt
      have kc := hx.cell c0
      have zc := cell_lt kc
      simp only at zc
      obtain ⟨x0, x1⟩ := HB.out ns[k] (List.getElem_mem hlt)
      have TK : numsT (ns.take (k + 1)) = numsT (ns.take k) ++ (32 :: Lib.itoa ns[k]) := by rw [List.take_succ_eq_append_getElem hlt, numsT_snoc]; rfl
      obtain ⟨x, hxx⟩ : ∃ x, ns[k] = x := ⟨_, rfl⟩
      rw [hxx] at kc x0 x1 TK
      have il := itoa_len x0 x1
      obtain ⟨I, hI⟩ : ∃ I, ba (Lib.itoa x) = I := ⟨_, rfl⟩
      obtain ⟨Z1, hZ1⟩ : ∃ Z1, ba (W ++ numsT (ns.take k) ++ [32]) = Z1 := ⟨_, rfl⟩
      obtain ⟨Z2, hZ2⟩ : ∃ Z2, ba (W ++ numsT (ns.take (k + 1))) = Z2 := ⟨_, rfl⟩
      have ad1 : ∀ u : World, (Op.stringOp .add Z ⟨#[32]⟩).run Tryd.prog u = .ok (.string Z1) u := add_ba (by rw [← hZ, ← hZ1]; exact ba_app _ [32]) (by rw [← hZ, ba_size]; show _ + 1 ≤ _; omega)
      have ad2 : ∀ u : World, (Op.stringOp .add Z1 I).run Tryd.prog u = .ok (.string Z2) u := add_ba (by rw [← hZ1, ← hZ2, ← hI, ba_app, TK]; simp [List.append_assoc]) (by rw [← hZ1, ← hI, ba_size, ba_size, List.length_append]; simp only [List.length_cons, List.length_nil]; omega)
      have FR := Lib.hid (fun u => From_ref x u (by omega) (by omega))
      have TX := Lib.hid (fun (v : Value) (u : World) (h : IntAt u v x 1) => Text_pos (G := 1) h x0 (by omega) (show x < 10 ^ 9 by rw [show (10 : Int) ^ 9 = 1000000000 by decide]; omega) (by omega))
      have HZ2 := Lib.hid hZ2
      clear hZ hZ1 hZ2 hxx c0 TK il
      go_wp2_with fail
      refine (FR.out _).mono ?_
      rintro e w1 ⟨v1, rfl, x1, h1⟩
      have H1 := Lib.hid h1
      clear FR h1
      go_wp2_with fail
      refine (TX.out _ _ H1.out).mono ?_
      rintro e w2 ⟨rfl, x2⟩
      clear TX H1
      go_wp2_with fail
      exact ⟨⟨k + 1, by omega, by go_num, by rw [HZ2.out], hx.tr (x1.tr x2)⟩, by simp [intOf]; omega⟩
    · have hkz : ¬ (k : Int) < (ns.length : Int) := by omega
      rw [List.take_of_length_le hge] at hZ zl
      obtain ⟨Z2, hZ2⟩ : ∃ Z2, ba (W ++ numsT ns ++ [10]) = Z2 := ⟨_, rfl⟩
      have ad1 : ∀ u : World, (Op.stringOp .add Z ⟨#[10]⟩).run Tryd.prog u = .ok (.string Z2) u := add_ba (by rw [← hZ, ← hZ2]; exact ba_app _ [10]) (by rw [← hZ, ba_size]; show _ + 1 ≤ _; omega)
      have HZ2 := Lib.hid hZ2
      clear hZ hZ2
      go_wp2
      go_ret
      exact ⟨by rw [← List.append_assoc, HZ2.out]; rfl, hx⟩
end Go.Proofs.YtfimmcnfmipnlaaDoor
namespace Go.Proofs.YtfimmcnfmipnlaaDoor
open Go.RowKit
theorem good_lay {f : LayF} {bd : List Lay} {deep lf l1 : Nat} (h : (Lay.mk f bd).good deep lf = some l1) : ∃ K : Nat, f.kind = K ∧ 1 ≤ K ∧ K ≤ 13 ∧ (∀ x ∈ (placesK K).map f.at, 0 ≤ x ∧ x ≤ 9999) ∧
    ((K = 13 ∧ goodS (deep + 1) (lf - 1) bd = some l1 ∧ (Lay.mk f bd).text = nameB K ++ numsT ((placesK K).map f.at) ++ [10] ++ (textS bd ++ (endB ++ [10]))) ∨ (K ≠ 13 ∧ (Lay.mk f bd).text = nameB K ++ numsT ((placesK K).map f.at) ++ [10])) := by
  rw [Lay.good] at h
  by_cases h0 : lf = 0
  · rw [if_pos h0] at h; cases h
  · rw [if_neg h0] at h
    by_cases hk13 : f.kind = 13
    · rw [if_pos hk13] at h
      by_cases hcond : deep < 4 ∧ f = LayF.kind0 13
      · rw [if_pos hcond] at h
        refine ⟨13, hk13, by omega, by omega, fun x hx => by simp [placesK] at hx, .inl ⟨rfl, h, ?_⟩⟩
        rw [Lay.text, if_pos hk13]
        simp [placesK, numsT]
      · rw [if_neg hcond] at h; cases h
    · rw [if_neg hk13] at h
      cases hq : kindT f.kind with
      | none => rw [hq] at h; cases h
      | some q =>
        rw [hq] at h
        simp only at h
        by_cases hcond : okF q f = true ∧ bd.isEmpty = true
        · have hqm : q ∈ kindsT := List.mem_of_find?_eq_some hq
          have hqe : (q : Int) = f.kind := by simpa using List.find?_some hq
          have hin := ((okF_iff hqm hqe.symm).1 hcond.1).1
          have h1 : 1 ≤ q ∧ q ≤ 12 := (show ∀ k ∈ kindsT, 1 ≤ k ∧ k ≤ 12 by decide) q hqm
          refine ⟨q, hqe.symm, h1.1, by omega, in_bounds hin, .inr ⟨by omega, ?_⟩⟩
          rw [Lay.text, if_neg hk13, hq]
          rfl
        · rw [if_neg hcond] at h; cases h
def PrintedOk (n : Nat) : Prop := ∀ (A : Nat → Prop) (v : Value) (L : List Lay) (deep lf l' : Nat) (w : World), LaysAt A w n v L → goodS deep lf L = some l' → lf ≤ 64 →
  Calls Tryd.prog 24 #[v] w fun e w' => e = .returned (.string (ba (textS L))) ∧ Ext w w'
set_option maxHeartbeats 100000000 in
set_option maxRecDepth 100000 in
theorem printed_step (n : Nat) (IH : ∀ m, n = m + 1 → PrintedOk m) : PrintedOk n := by
  intro A v L deep lf l' w hL hG hlf
  obtain ⟨a1, c1, rfl⟩ := hL.form
  have HLY := Lib.hid hL
  have HG := Lib.hid hG
  have hm : L.length ≤ 9223372036854775807 := by
    cases n with
    | zero => rw [hL.1]; simp
    | succ n => obtain ⟨_, _, _, h, _⟩ := hL; unfold maxLen at h; omega
  have LEN : ∀ k, (textS (L.take k)).length ≤ 2560 := fun k => by
    have a := texts_len L hG
    have b : textS L = textS (L.take k) ++ textS (L.drop k) := by rw [← textS_append, List.take_append_drop]
    rw [b, List.length_append] at a
    omega
  have HLEN := Lib.hid LEN
  clear hL hG LEN
  go_enter Tryd.func24, Tryd.ntmps24
  go_wp2_with fail
  go_loopw [3, 4] (fun s c wr => ∃ (k lf' : Nat), k ≤ L.length ∧ c = .int .i64 k ∧ s = .string (ba (textS (L.take k))) ∧ goodS deep lf' (L.drop k) = some l' ∧ lf' ≤ 64 ∧ Ext w wr) (fun _ c _ => L.length - (intOf c).toNat)
  case atStart => exact ⟨0, lf, Nat.zero_le _, rfl, rfl, HG.out, hlf, Ext.refl _⟩
  case round =>
    obtain ⟨k, lf', hk, rfl, rfl, hr, hlf', hext⟩ := hrel
    have RD := Lib.hid hr
    clear hr HG
    rcases Nat.lt_or_ge k L.length with hlt | hge
    · have hkz : (k : Int) < (L.length : Int) := by omega
      cases n with
      | zero => rw [HLY.out.1] at hlt; exact absurd hlt (Nat.not_lt_zero _)
      | succ n =>
        obtain ⟨_, _, e1, -, q1⟩ := HLY.out
        cases e1
        obtain ⟨b, o, rfl, hb, r1⟩ := q1 (by intro e; rw [e] at hlt; simp at hlt)
        obtain ⟨bv, -, t1, s1⟩ := r1 k hlt
        obtain ⟨y0, y1, y2, y3, y4, y5, y6, y7, y8⟩ := nine t1
        replace y0 := hext.cell y0
        replace y1 := hext.cell y1
        replace y2 := hext.cell y2
        replace y3 := hext.cell y3
        replace y4 := hext.cell y4
        replace y5 := hext.cell y5
        replace y6 := hext.cell y6
        replace y7 := hext.cell y7
        replace y8 := hext.cell y8
        have zc := cell_lt y0
        simp only at zc
        have DR := Lib.hid (List.drop_eq_getElem_cons hlt)
        have HB := Lib.hid (s1.ext hext)
        obtain ⟨f, hf⟩ : ∃ f, L[k].f = f := ⟨_, rfl⟩
        obtain ⟨bd, hbd⟩ : ∃ bd, L[k].b = bd := ⟨_, rfl⟩
        have EL := Lib.hid (show L[k] = .mk f bd by rw [← hf, ← hbd]; cases L[k]; rfl)
        have TK := Lib.hid (show textS (L.take (k + 1)) = textS (L.take k) ++ (Lay.mk f bd).text by rw [take_sn hlt, textS_append, EL.out, textS, textS, List.append_nil])
        have LK := HLEN.out (k + 1)
        rw [TK.out, List.length_append] at LK
        rw [hf] at y0 y1 y2 y3 y4 y5 y6 y7
        rw [hbd] at HB
        obtain ⟨ab, cb, rfl⟩ := HB.out.form
        obtain ⟨l1, g1, g2⟩ : ∃ l1, (Lay.mk f bd).good deep lf' = some l1 ∧ goodS deep l1 (L.drop (k + 1)) = some l' := by
          have h := RD.out
          rw [DR.out, EL.out, goodS] at h
          cases hg : (Lay.mk f bd).good deep lf' with
          | none => rw [hg] at h; cases h
          | some l1 => rw [hg] at h; exact ⟨l1, rfl, h⟩
        have h64 : l1 ≤ 64 := by have := good_le _ g1; omega
        have G2 := Lib.hid g2
        have XO := Lib.hid hext
        obtain ⟨K, hK, hK1, hK2, hbnd, htx⟩ := good_lay g1
        obtain ⟨s0, hs0⟩ : ∃ s0, textS (L.take k) = s0 := ⟨_, rfl⟩
        rw [hs0] at TK LK ⊢
        obtain ⟨S, hS⟩ : ∃ S, ba s0 = S := ⟨_, rfl⟩
        have SZ : S.size = s0.length := by rw [← hS]; exact ba_size s0
        rw [hS]
        obtain ⟨ns, hns⟩ : ∃ ns, (placesK K).map f.at = ns := ⟨_, rfl⟩
        have hnl : ns.length ≤ 5 := by rw [← hns, List.length_map]; exact places_len K
        have NU := Lib.hid (fun u => numbersI_any K hK2 f (.slice ab bd.length cb) hK u)
        have NA := Lib.hid (fun u => nameR_any K hK2 u)
        obtain ⟨N, hN⟩ : ∃ N, ba (nameB K) = N := ⟨_, rfl⟩
        obtain ⟨R, hR⟩ : ∃ R, ba (nameB K ++ numsT ns ++ [10]) = R := ⟨_, rfl⟩
        obtain ⟨S1, hS1⟩ : ∃ S1, ba (s0 ++ (nameB K ++ numsT ns ++ [10])) = S1 := ⟨_, rfl⟩
        rw [hns] at NU hbnd htx
        have RW := Lib.hid (fun u v (h : RowV u v (intsV ns)) => rowR_any (W := nameB K) h (by have := name_len K; omega) hnl hbnd hN)
        rw [hR] at RW
        rw [hN] at NA
        simp only [layA] at NU
        rw [← hK] at NA
        have hl0 : s0.length + (nameB K ++ numsT ns ++ [10]).length ≤ 2560 := by
          rcases htx with ⟨-, -, h⟩ | ⟨-, h⟩
          · rw [h, List.length_append] at LK; omega
          · rw [h] at LK; exact LK
        have ad : ∀ u : World, (Op.stringOp .add S R).run Tryd.prog u = .ok (.string S1) u := add_ba (by rw [← hS, ← hR, ← hS1]; exact ba_app _ _) (by rw [SZ, ← hR, ba_size]; omega)
        have HS1 := Lib.hid hS1
        have HTX := Lib.hid htx
        have HK := Lib.hid hK
        have HLK := Lib.hid LK
        have HL0 := Lib.hid hl0
        clear hs0 hS SZ hns hnl hN hR hS1 hbnd htx hK LK hl0 g1 g2 q1 t1 s1 r1 hf hbd RD DR EL HLEN hext hK1 hK2
        have KP := Lib.hid (fun (W : World) (x : Ext wr W) => (show W.cell? ⟨b, o + k * 9, none⟩ = some (.int .i64 f.kind) ∧ W.cell? ⟨b, o + k * 9 + 1, none⟩ = some (.int .i64 f.inn) ∧ W.cell? ⟨b, o + k * 9 + 2, none⟩ = some (.int .i64 f.out) ∧ W.cell? ⟨b, o + k * 9 + 3, none⟩ = some (.int .i64 f.size) ∧ W.cell? ⟨b, o + k * 9 + 4, none⟩ = some (.int .i64 f.stride) ∧ W.cell? ⟨b, o + k * 9 + 5, none⟩ = some (.int .i64 f.pad) ∧ W.cell? ⟨b, o + k * 9 + 6, none⟩ = some (.int .i64 f.percent) ∧ W.cell? ⟨b, o + k * 9 + 7, none⟩ = some (.int .i64 f.heads) ∧ W.cell? ⟨b, o + k * 9 + 8, none⟩ = some (.slice ab bd.length cb) ∧ b < W.heap.size ∧ Ext wr W from ⟨x.cell y0, x.cell y1, x.cell y2, x.cell y3, x.cell y4, x.cell y5, x.cell y6, x.cell y7, x.cell y8, Nat.lt_of_lt_of_le zc x.size, x⟩))
        go_wp2_with fail
        go_cut [3] from 5 to 39 (fun s3 wx => s3 = .string S1 ∧ Ext wr wx)
        case first => as_aux_lemma =>
          go_region_held3 (fun w' => w'.cell? ⟨b, o + k * 9, none⟩ = some (.int .i64 f.kind) ∧ w'.cell? ⟨b, o + k * 9 + 1, none⟩ = some (.int .i64 f.inn) ∧ w'.cell? ⟨b, o + k * 9 + 2, none⟩ = some (.int .i64 f.out) ∧ w'.cell? ⟨b, o + k * 9 + 3, none⟩ = some (.int .i64 f.size) ∧ w'.cell? ⟨b, o + k * 9 + 4, none⟩ = some (.int .i64 f.stride) ∧ w'.cell? ⟨b, o + k * 9 + 5, none⟩ = some (.int .i64 f.pad) ∧ w'.cell? ⟨b, o + k * 9 + 6, none⟩ = some (.int .i64 f.percent) ∧ w'.cell? ⟨b, o + k * 9 + 7, none⟩ = some (.int .i64 f.heads) ∧ w'.cell? ⟨b, o + k * 9 + 8, none⟩ = some (.slice ab bd.length cb) ∧ b < w'.heap.size ∧ Ext wr w')
            (exact KP.out _ (by repeat (first | with_reducible exact Ext.refl _ | with_reducible apply Ext.drew | with_reducible apply Ext.drewN | with_reducible apply Ext.alloc | ((with_reducible refine Ext.setCell ?_ ?_ _); rotate_left; focus (first | (simp; done) | (simp; omega) | omega)) | with_reducible refine Ext.tr ?_ x1 | with_reducible refine Ext.tr ?_ x2 | with_reducible refine Ext.tr ?_ hx | with_reducible refine Ext.tr ?_ hext | with_reducible assumption)))
            (first
              | ((go_at_call 29; refine (NA.out _).mono ?_; rintro e w' ⟨rfl, rfl⟩))
              | ((go_at_call 31; refine (NU.out _).mono ?_; rintro e v1 ⟨q1, rfl, x1, h1⟩; obtain ⟨c1, f1⟩ := x1.rules; have z1 := x1.size); clear NU; (try simp at z1))
              | ((go_at_call 23; refine (RW.out _ _ (h1.ext (by repeat (first | with_reducible exact Ext.refl _ | with_reducible apply Ext.drew | with_reducible apply Ext.drewN | with_reducible apply Ext.alloc | ((with_reducible refine Ext.setCell ?_ ?_ _); rotate_left; focus (first | (simp; done) | (simp; omega) | omega)) | with_reducible refine Ext.tr ?_ x1 | with_reducible refine Ext.tr ?_ x2 | with_reducible refine Ext.tr ?_ hx | with_reducible refine Ext.tr ?_ hext | with_reducible assumption)))).mono ?_; rintro e v2 ⟨rfl, x2⟩; obtain ⟨c2, f2⟩ := x2.rules; have z2 := x2.size); clear RW; (try simp at z2)))
          all_goals
            go_wp2_with fail
            go_meet
            exact ⟨rfl, (by repeat (first | with_reducible exact Ext.refl _ | with_reducible apply Ext.drew | with_reducible apply Ext.drewN | with_reducible apply Ext.alloc | ((with_reducible refine Ext.setCell ?_ ?_ _); rotate_left; focus (first | (simp; done) | (simp; omega) | omega)) | with_reducible refine Ext.tr ?_ x1 | with_reducible refine Ext.tr ?_ x2 | with_reducible refine Ext.tr ?_ hx | with_reducible refine Ext.tr ?_ hext | with_reducible assumption))⟩
        case rest =>
          obtain ⟨rfl, xA⟩ := hcut
          have c0 := xA.cell y0
          have c8 := xA.cell y8
          have zc2 := cell_lt c0
          simp only at zc2
          have XA := Lib.hid (XO.out.tr xA)
          have HB2 := Lib.hid (HB.out.ext xA)
          clear y0 y1 y2 y3 y4 y5 y6 y7 y8 zc KP NU NA RW ad HB XO xA
          rcases HTX.out with ⟨h13, hgb, htx⟩ | ⟨h13, htx⟩
          · subst h13
            replace c0 : wc.cell? ⟨b, o + k * 9, none⟩ = some (.int .i64 13) := by rw [c0, HK.out]; rfl
            have IC := Lib.hid (IH n rfl A (.slice ab bd.length cb) bd (deep + 1) (lf' - 1) l1 wc HB2.out hgb (by omega))
            have lk := HLK.out
            rw [htx] at lk
            obtain ⟨tb, htb⟩ : ∃ tb, textS bd = tb := ⟨_, rfl⟩
            rw [htb] at IC lk htx
            obtain ⟨r, hr⟩ : ∃ r, nameB 13 ++ numsT ns ++ [10] = r := ⟨_, rfl⟩
            have hs1 := HS1.out
            rw [hr] at lk htx hs1
            simp only [List.length_append] at lk
            obtain ⟨T, hT⟩ : ∃ T, ba tb = T := ⟨_, rfl⟩
            rw [hT] at IC
            obtain ⟨T1, hT1⟩ : ∃ T1, ba (s0 ++ r ++ tb) = T1 := ⟨_, rfl⟩
            obtain ⟨T2, hT2⟩ : ∃ T2, ba (s0 ++ r ++ tb ++ (endB ++ [10])) = T2 := ⟨_, rfl⟩
            have ad1 : ∀ u : World, (Op.stringOp .add S1 T).run Tryd.prog u = .ok (.string T1) u := add_ba (by rw [← hs1, ← hT, ← hT1]; exact ba_app _ _) (by rw [← hs1, ← hT, ba_size, ba_size, List.length_append]; omega)
            have ad2 : ∀ u : World, (Op.stringOp .add T1 ⟨#[101, 110, 100, 10]⟩).run Tryd.prog u = .ok (.string T2) u := add_ba (by rw [← hT1, ← hT2]; exact ba_app _ (endB ++ [10])) (by rw [← hT1, ba_size, List.length_append, List.length_append]; show _ + 4 ≤ _; omega)
            have FIN := Lib.hid (show ba (textS (L.take (k + 1))) = T2 by rw [TK.out, htx, ← hT2]; congr 1; simp)
            clear hT hT1 hT2 TK htx lk htb hr hs1 HS1 HTX HK HLK HL0 HB2 hgb IH
            go_wp2_with fail
            refine IC.out.mono ?_
            rintro e w2 ⟨rfl, x2⟩
            clear IC c0 c8
            go_wp2_with fail
            exact ⟨⟨k + 1, l1, by omega, by go_num, by rw [FIN.out], G2.out, h64, XA.out.tr x2⟩, by simp [intOf]; omega⟩
          · have kz : (f.kind == 13) = false := by rw [HK.out]; simp; omega
            have FIN := Lib.hid (show ba (textS (L.take (k + 1))) = S1 by rw [TK.out, htx, HS1.out])
            clear TK htx HS1 HTX HK HLK HL0 HB2 IH h13 c8
            go_wp2_with fail
            exact ⟨⟨k + 1, l1, by omega, by go_num, by rw [FIN.out], G2.out, h64, XA.out⟩, by simp [intOf]; omega⟩
    · have hkz : ¬ (k : Int) < (L.length : Int) := by omega
      rw [List.take_of_length_le hge]
      obtain ⟨T, hT⟩ : ∃ T, ba (textS L) = T := ⟨_, rfl⟩
      rw [hT]
      have HT := Lib.hid hT
      clear hT HLY HLEN RD IH
      go_wp2
      go_ret
      exact ⟨by rw [HT.out]; rfl, hext⟩
theorem printed_any : ∀ n, PrintedOk n
  | 0 => printed_step 0 (fun _ h => by omega)
  | n + 1 => printed_step (n + 1) (fun m h => by
    have e : m = n := by omega
    rw [e]; exact printed_any n)
set_option maxHeartbeats 4000000 in
set_option maxRecDepth 100000 in
theorem printR_any {A : Nat → Prop} {n : Nat} {w : World} {v : Value} {d : DefL} {S : ByteArray} (h : DefAt A n w v d) (hg : goodD d = true) (hS : ba (printS d) = S) :
    Calls Tryd.prog 10 #[v] w fun e w' => e = .returned (.string S) ∧ Ext w w' := by
  obtain ⟨a1, c1, a2, c2, rfl, hi, hl⟩ := h.is
  obtain ⟨g1, g2, g3, g4, l', g5⟩ := good_parts hg
  have hrv : RowV w (.slice a1 d.input.length c1) (intsV d.input) := by
    obtain ⟨a, cap, e, e1, e2, e3⟩ := hi
    refine ⟨a, cap, by rw [e]; simp [intsV], by simpa [intsV] using e1, e2, fun hne => ?_⟩
    obtain ⟨b, o, rfl, hc⟩ := e3 (by rintro e0; exact hne (by rw [e0]; rfl))
    refine ⟨b, o, rfl, fun i hi => ?_⟩
    have hi' : i < d.input.length := by simpa [intsV] using hi
    rw [hc i hi', List.getD_eq_getElem?_getD, List.getElem?_eq_getElem hi', List.getElem?_eq_getElem hi]
    simp [intsV]
  have NLE := numsT_len d.input (fun x hx => by have := g4 x hx; omega)
  have TLE := texts_len d.layers g5
  obtain ⟨r, hr⟩ : ∃ r, inputB ++ numsT d.input ++ [10] = r := ⟨_, rfl⟩
  obtain ⟨t, ht⟩ : ∃ t, textS d.layers = t := ⟨_, rfl⟩
  have rl : r.length ≤ 30 := by rw [← hr]; simp only [List.length_append, inputB, List.length_cons, List.length_nil]; omega
  rw [ht] at TLE
  obtain ⟨R, hR⟩ : ∃ R, ba r = R := ⟨_, rfl⟩
  obtain ⟨T, hT⟩ : ∃ T, ba t = T := ⟨_, rfl⟩
  obtain ⟨RT, hRT⟩ : ∃ RT, ba (r ++ t) = RT := ⟨_, rfl⟩
  have RW := Lib.hid (fun u (x : Ext w u) => rowR_any (W := inputB) (S := ⟨#[105, 110, 112, 117, 116]⟩) (hrv.ext x) (by simp [inputB]) (by omega) (fun x hx => by have := g4 x hx; omega) rfl)
  have PR := Lib.hid (fun u (x : Ext w u) => printed_any n A _ d.layers 0 64 l' u (hl.ext x) g5 (by omega))
  rw [hr, hR] at RW
  rw [ht, hT] at PR
  have ad1 : ∀ u : World, (Op.stringOp .add R T).run Tryd.prog u = .ok (.string RT) u := add_ba (by rw [← hR, ← hT, ← hRT]; exact ba_app _ _) (by rw [← hR, ← hT, ba_size, ba_size]; omega)
  have PS : printS d = r ++ t ++ (lossB ++ [32] ++ (if d.loss = 1 then xentB else squareB) ++ [10]) := by
    unfold printS
    rw [hr, ht]
    simp only [List.append_assoc]
  have hls : d.loss = 1 ∨ (d.loss == 1) = false ∧ d.loss ≠ 1 := by
    by_cases h : d.loss = 1
    · exact .inl h
    · exact .inr ⟨by simpa using h, h⟩
  have HLS := Lib.hid hls
  have HPS := Lib.hid PS
  have HSS := Lib.hid hS
  have HRT := Lib.hid hRT
  clear h hi hl hg hS g1 g2 g3 g4 g5 hrv hr ht hR hT hRT PS NLE hls
  go_enter Tryd.func10, Tryd.ntmps10
  go_wp2_with fail
  obtain ⟨V, hV⟩ : ∃ V : World, w.alloc (.cells #[.slice a1 d.input.length c1, .slice a2 d.layers.length c2, .int .i64 d.loss] 26) = V := ⟨_, rfl⟩
  have XV : Ext w V := by rw [← hV]; exact (Ext.refl w).alloc _
  have BV : Blk V w.heap.size 26 #[.slice a1 d.input.length c1, .slice a2 d.layers.length c2, .int .i64 d.loss] := by rw [← hV]; exact Blk.new w _ _
  obtain ⟨k0, k1, k2, zk⟩ := BV.three'
  obtain ⟨g, hg⟩ : ∃ g, w.heap.size = g := ⟨_, rfl⟩
  rw [hV]
  rw [hg] at k0 k1 k2 zk ⊢
  clear hV BV hg
  go_cut [3] from 4 to 17 (fun s3 wx => s3 = .string RT ∧ Ext V wx)
  case first => as_aux_lemma =>
    go_region_held3 (fun w' => w'.cell? ⟨g, 0, none⟩ = some (.slice a1 d.input.length c1) ∧ w'.cell? ⟨g, 1, none⟩ = some (.slice a2 d.layers.length c2) ∧ g < w'.heap.size ∧ Ext V w')
      (refine ⟨?_, ?_, ?_, ?_⟩ <;> first | (simp [go_sem, *]; done) | omega | (simp at z1; omega) | (simp at z2; omega) | (simp at z3; omega) | (simp at z4; omega) | exact (by repeat (first | with_reducible exact Ext.refl _ | with_reducible apply Ext.drew | with_reducible apply Ext.drewN | with_reducible apply Ext.alloc | ((with_reducible refine Ext.setCell ?_ ?_ _); rotate_left; focus (first | (simp; done) | (simp; omega) | omega)) | with_reducible refine Ext.tr ?_ x1 | with_reducible refine Ext.tr ?_ x2 | with_reducible refine Ext.tr ?_ hx | with_reducible refine Ext.tr ?_ hext | with_reducible assumption)))
      (first
        | ((go_at_call 23; refine (RW.out _ (XV.tr (by repeat (first | with_reducible exact Ext.refl _ | with_reducible apply Ext.drew | with_reducible apply Ext.drewN | with_reducible apply Ext.alloc | ((with_reducible refine Ext.setCell ?_ ?_ _); rotate_left; focus (first | (simp; done) | (simp; omega) | omega)) | with_reducible refine Ext.tr ?_ x1 | with_reducible refine Ext.tr ?_ x2 | with_reducible refine Ext.tr ?_ hx | with_reducible refine Ext.tr ?_ hext | with_reducible assumption)))).mono ?_; rintro e v1 ⟨rfl, x1⟩; obtain ⟨c1, f1⟩ := x1.rules; have z1 := x1.size); clear RW; have y1 : Ext V v1 := (by repeat (first | with_reducible exact Ext.refl _ | with_reducible apply Ext.drew | with_reducible apply Ext.drewN | with_reducible apply Ext.alloc | ((with_reducible refine Ext.setCell ?_ ?_ _); rotate_left; focus (first | (simp; done) | (simp; omega) | omega)) | with_reducible refine Ext.tr ?_ x1 | with_reducible refine Ext.tr ?_ x2 | with_reducible refine Ext.tr ?_ hx | with_reducible refine Ext.tr ?_ hext | with_reducible assumption)); have n0 := y1.cell k0; have n1 := y1.cell k1; have zm : g < v1.heap.size := cell_lt n0)
        | ((go_at_call 24; refine (PR.out _ (XV.tr (by repeat (first | with_reducible exact Ext.refl _ | with_reducible apply Ext.drew | with_reducible apply Ext.drewN | with_reducible apply Ext.alloc | ((with_reducible refine Ext.setCell ?_ ?_ _); rotate_left; focus (first | (simp; done) | (simp; omega) | omega)) | with_reducible refine Ext.tr ?_ x1 | with_reducible refine Ext.tr ?_ x2 | with_reducible refine Ext.tr ?_ hx | with_reducible refine Ext.tr ?_ hext | with_reducible assumption)))).mono ?_; rintro e v2 ⟨rfl, x2⟩; obtain ⟨c2, f2⟩ := x2.rules; have z2 := x2.size); clear PR; have y2 : Ext V v2 := (by repeat (first | with_reducible exact Ext.refl _ | with_reducible apply Ext.drew | with_reducible apply Ext.drewN | with_reducible apply Ext.alloc | ((with_reducible refine Ext.setCell ?_ ?_ _); rotate_left; focus (first | (simp; done) | (simp; omega) | omega)) | with_reducible refine Ext.tr ?_ x1 | with_reducible refine Ext.tr ?_ x2 | with_reducible refine Ext.tr ?_ hx | with_reducible refine Ext.tr ?_ hext | with_reducible assumption)); have m0 := y2.cell k0; have m1 := y2.cell k1; have zn : g < v2.heap.size := cell_lt m0))
    all_goals
      go_wp2_with fail
      go_meet
      exact ⟨rfl, (by repeat (first | with_reducible exact Ext.refl _ | with_reducible apply Ext.drew | with_reducible apply Ext.drewN | with_reducible apply Ext.alloc | ((with_reducible refine Ext.setCell ?_ ?_ _); rotate_left; focus (first | (simp; done) | (simp; omega) | omega)) | with_reducible refine Ext.tr ?_ x1 | with_reducible refine Ext.tr ?_ x2 | with_reducible refine Ext.tr ?_ hx | with_reducible refine Ext.tr ?_ hext | with_reducible assumption))⟩
  case rest =>
    obtain ⟨rfl, xA⟩ := hcut
    replace k2 := xA.cell k2
    replace zk := cell_lt k2
    simp only at zk
    have XA := Lib.hid (XV.tr xA)
    clear k0 k1 RW PR ad1 XV xA
    have hps := HPS.out
    have hrt := HRT.out
    have hss := HSS.out
    rcases HLS.out with h1 | ⟨h1, h2⟩
    · rw [h1] at k2
      rw [if_pos h1] at hps
      have ad : ∀ u : World, (Op.stringOp .add RT ⟨#[108, 111, 115, 115, 32, 120, 101, 110, 116, 10]⟩).run Tryd.prog u = .ok (.string S) u :=
        add_ba (by rw [← hrt, ← hss, hps]; exact ba_app _ (lossB ++ [32] ++ xentB ++ [10])) (by rw [← hrt, ba_size, List.length_append]; show _ + 10 ≤ _; omega)
      clear hps hrt hss HPS HRT HSS HLS h1
      go_wp2_with fail
      go_ret
      exact ⟨rfl, XA.out⟩
    · rw [if_neg h2] at hps
      have ad : ∀ u : World, (Op.stringOp .add RT ⟨#[108, 111, 115, 115, 32, 115, 113, 117, 97, 114, 101, 10]⟩).run Tryd.prog u = .ok (.string S) u :=
        add_ba (by rw [← hrt, ← hss, hps]; exact ba_app _ (lossB ++ [32] ++ squareB ++ [10])) (by rw [← hrt, ba_size, List.length_append]; show _ + 12 ≤ _; omega)
      clear hps hrt hss HPS HRT HSS HLS h2
      go_wp2_with fail
      go_ret
      exact ⟨rfl, XA.out⟩
end Go.Proofs.YtfimmcnfmipnlaaDoor
