/- Layer 27, plain laws: layers behind layers. No function of the program is named here. -/
import Derived.Test.YtgokenbojppnhaaDoorInfNames
namespace Go.Proofs.YtgokenbojppnhaaDoor
theorem does_some {f : LayF} {s o : List Int} {first : Bool} {nm : Bs} {ps : List ParamP} (h : doesS f s first nm = some (o, ps)) (hs : s ≠ []) : o ≠ [] := by
  unfold doesS at h
  split at h
  · split at h
    · cases h; simp
    · cases h
  · split at h
    · cases hi : imageS f s with
      | none => rw [hi] at h; cases h
      | some p =>
        rw [hi] at h
        simp only at h
        split at h
        · cases h; simp
        · cases h
    · split at h
      · cases hi : imageS f s with
        | none => rw [hi] at h; cases h
        | some p =>
          rw [hi] at h
          cases h; simp
      · split at h
        · cases h; simp
        · split at h
          · split at h
            · cases h; simp
            · cases h
          · split at h
            · split at h
              · cases h; exact hs
              · cases h
            · cases h; exact hs
theorem judge_some {f : LayF} {s o : List Int} {first : Bool} {nm : Bs} {ps : List ParamP} (h : judgeS f s first nm = .ok o ps) (hs : s ≠ []) : o ≠ [] ∧ fullS o = true := by
  unfold judgeS at h
  cases hd : doesS f s first nm with
  | none => rw [hd] at h; cases h
  | some q =>
    obtain ⟨o', ps'⟩ := q
    rw [hd] at h
    simp only at h
    split at h
    · rename_i h1
      cases h
      rw [Bool.and_eq_true] at h1
      exact ⟨does_some hd hs, h1.1⟩
    · cases h
theorem infer_some : ∀ (l : Lay) {first : Bool} {nm : Bs} {s x : List Int} {ps : List ParamP}, l.infer first nm s = .ok x ps → s ≠ [] → fullS s = true → x ≠ [] ∧ fullS x = true
  | .mk f b, first, nm, s, x, ps, h, hs, hf => by
    by_cases h13 : f.kind = 13
    · rw [infer_body h13] at h
      cases hb : inferS false (nm ++ [46]) 0 s b with
      | bad e => rw [hb] at h; cases h
      | ok y qs =>
        rw [hb] at h
        simp only at h
        split at h
        · cases h; exact ⟨hs, hf⟩
        · cases h
    · rw [infer_plain h13] at h
      exact judge_some h hs
theorem inferS_some : ∀ (L : List Lay) {first : Bool} {ah : Bs} {k : Nat} {s x : List Int} {ps : List ParamP}, inferS first ah k s L = .ok x ps → s ≠ [] → fullS s = true → x ≠ [] ∧ fullS x = true
  | [], _, _, _, _, _, _, h, hs, hf => by simp [inferS] at h; rw [← h.1]; exact ⟨hs, hf⟩
  | l :: ls, first, ah, k, s, x, ps, h, hs, hf => by
    rw [inferS] at h
    cases hb : l.infer first (ah ++ Lib.itoa (k : Int)) s with
    | bad e => rw [hb] at h; cases h
    | ok y qs =>
      rw [hb] at h
      simp only at h
      obtain ⟨h1, h2⟩ := infer_some l hb hs hf
      cases hc : inferS false ah (k + 1) y ls with
      | bad e => rw [hc] at h; cases h
      | ok z rs =>
        rw [hc] at h
        cases h
        exact inferS_some ls hc h1 h2
/-- A parameter without its name. -/
def ParamP.bare (p : ParamP) : ParamP := ⟨[], p.shape, p.inn, p.out⟩
def Told.bare : Told → Told
  | .bad e => .bad e
  | .ok x ps => .ok x (ps.map ParamP.bare)
theorem does_bare (f : LayF) (s : List Int) (first : Bool) (nm nm' : Bs) : (doesS f s first nm).map (fun q => (q.1, q.2.map ParamP.bare)) = (doesS f s first nm').map (fun q => (q.1, q.2.map ParamP.bare)) := by
  unfold doesS
  by_cases h1 : f.kind = 1
  · simp only [if_pos h1]
    split <;> simp [ParamP.bare]
  simp only [if_neg h1]
  by_cases h2 : f.kind = 2
  · simp only [if_pos h2]
    cases imageS f s with
    | none => rfl
    | some p =>
      simp only
      split <;> simp [ParamP.bare]
  simp only [if_neg h2]
  by_cases h8 : f.kind = 8 ∨ f.kind = 9
  · simp only [if_pos h8]
  simp only [if_neg h8]
  by_cases h10 : f.kind = 10
  · simp only [if_pos h10]
  simp only [if_neg h10]
  by_cases h11 : f.kind = 11
  · simp only [if_pos h11]
    split <;> simp [ParamP.bare]
  simp only [if_neg h11]
  by_cases h12 : f.kind = 12
  · simp only [if_pos h12]
    split <;> simp [ParamP.bare]
  simp only [if_neg h12]
theorem shp_bare (ps : List ParamP) : (ps.map ParamP.bare).all (fun p => shp p.shape) = ps.all (fun p => shp p.shape) := by
  rw [List.all_map]; rfl
theorem judge_bare (f : LayF) (s : List Int) (first : Bool) (nm nm' : Bs) : (judgeS f s first nm).bare = (judgeS f s first nm').bare := by
  have h := does_bare f s first nm nm'
  unfold judgeS
  cases h1 : doesS f s first nm with
  | none =>
    cases h2 : doesS f s first nm' with
    | none => rfl
    | some q => rw [h1, h2] at h; cases h
  | some p =>
    cases h2 : doesS f s first nm' with
    | none => rw [h1, h2] at h; cases h
    | some q =>
      obtain ⟨o, ps⟩ := p
      obtain ⟨o', ps'⟩ := q
      rw [h1, h2] at h
      simp only [Option.map_some, Option.some.injEq, Prod.mk.injEq] at h
      obtain ⟨rfl, hp⟩ := h
      simp only
      rw [← shp_bare ps, ← shp_bare ps', hp]
      split
      · simp only [Told.bare, hp]
      · rfl
mutual
theorem infer_bare : ∀ (l : Lay) (first : Bool) (nm nm' : Bs) (s : List Int), (l.infer first nm s).bare = (l.infer first nm' s).bare
  | .mk f b, first, nm, nm', s => by
    by_cases h : f.kind = 13
    · rw [infer_body h, infer_body h]
      have hh := inferS_bare b false (nm ++ [46]) (nm' ++ [46]) 0 0 s
      cases h1 : inferS false (nm ++ [46]) 0 s b with
      | bad e =>
        cases h2 : inferS false (nm' ++ [46]) 0 s b with
        | bad e' => rw [h1, h2] at hh; simpa [Told.bare] using hh
        | ok x ps => rw [h1, h2] at hh; cases hh
      | ok x ps =>
        cases h2 : inferS false (nm' ++ [46]) 0 s b with
        | bad e' => rw [h1, h2] at hh; cases hh
        | ok x' ps' =>
          rw [h1, h2] at hh
          simp only [Told.bare, Told.ok.injEq] at hh
          obtain ⟨rfl, hp⟩ := hh
          simp only
          split
          · simp only [Told.bare, hp]
          · rfl
    · rw [infer_plain h, infer_plain h]
      exact judge_bare f s first nm nm'
theorem inferS_bare : ∀ (L : List Lay) (first : Bool) (ah ah' : Bs) (k k' : Nat) (s : List Int), (inferS first ah k s L).bare = (inferS first ah' k' s L).bare
  | [], _, _, _, _, _, _ => by simp [inferS]
  | l :: ls, first, ah, ah', k, k', s => by
    have hh := infer_bare l first (ah ++ Lib.itoa (k : Int)) (ah' ++ Lib.itoa (k' : Int)) s
    rw [inferS, inferS]
    cases h1 : l.infer first (ah ++ Lib.itoa (k : Int)) s with
    | bad e =>
      cases h2 : l.infer first (ah' ++ Lib.itoa (k' : Int)) s with
      | bad e' => rw [h1, h2] at hh; simpa [Told.bare] using hh
      | ok x ps => rw [h1, h2] at hh; cases hh
    | ok x ps =>
      cases h2 : l.infer first (ah' ++ Lib.itoa (k' : Int)) s with
      | bad e' => rw [h1, h2] at hh; cases hh
      | ok x' ps' =>
        rw [h1, h2] at hh
        simp only [Told.bare, Told.ok.injEq] at hh
        obtain ⟨rfl, hp⟩ := hh
        simp only
        have hi := inferS_bare ls false ah ah' (k + 1) (k' + 1) x
        cases h3 : inferS false ah (k + 1) x ls with
        | bad e =>
          cases h4 : inferS false ah' (k' + 1) x ls with
          | bad e' => rw [h3, h4] at hi; simpa [Told.bare] using hi
          | ok y qs => rw [h3, h4] at hi; cases hi
        | ok y qs =>
          cases h4 : inferS false ah' (k' + 1) x ls with
          | bad e' => rw [h3, h4] at hi; cases hi
          | ok y' qs' =>
            rw [h3, h4] at hi
            simp only [Told.bare, Told.ok.injEq] at hi
            simp [Told.bare, hp, hi.1, hi.2]
end
/-- Layers, and more behind them. -/
theorem inferS_app : ∀ (L M : List Lay) (first : Bool) (ah : Bs) (k : Nat) (s : List Int), inferS first ah k s (L ++ M) = match inferS first ah k s L with
    | .bad e => .bad e
    | .ok x ps => match inferS (first && L.isEmpty) ah (k + L.length) x M with
      | .bad e => .bad e
      | .ok y qs => .ok y (ps ++ qs)
  | [], M, first, ah, k, s => by
    simp only [List.nil_append, inferS, List.isEmpty_nil, Bool.and_true, List.length_nil, Nat.add_zero]
    cases inferS first ah k s M <;> simp
  | a :: L, M, first, ah, k, s => by
    simp only [List.cons_append, inferS, List.isEmpty_cons, Bool.and_false, List.length_cons]
    cases a.infer first (ah ++ Lib.itoa (k : Int)) s with
    | bad e => rfl
    | ok x ps =>
      simp only
      rw [inferS_app L M false ah (k + 1) x, show k + 1 + L.length = k + (L.length + 1) by omega, Bool.false_and]
      cases inferS false ah (k + 1) x L with
      | bad e => rfl
      | ok y qs =>
        simp only
        cases inferS false ah (k + (L.length + 1)) y M with
        | bad e => rfl
        | ok z rs => simp
theorem digit_no {n : Nat} (h : n < 100) : (46 : UInt8) ∉ Lib.itoa (n : Int) := by
  rw [itoa_nat]
  by_cases h1 : n < 10
  · rw [Lib.decDigits_one h1]
    have : n = 0 ∨ n = 1 ∨ n = 2 ∨ n = 3 ∨ n = 4 ∨ n = 5 ∨ n = 6 ∨ n = 7 ∨ n = 8 ∨ n = 9 := by omega
    rcases this with rfl | rfl | rfl | rfl | rfl | rfl | rfl | rfl | rfl | rfl <;> decide
  · rw [Lib.decDigits_two h1 h]
    have d : ∀ m, m < 10 → (46 : UInt8) ≠ UInt8.ofNat (48 + m) := fun m hm => by
      have : m = 0 ∨ m = 1 ∨ m = 2 ∨ m = 3 ∨ m = 4 ∨ m = 5 ∨ m = 6 ∨ m = 7 ∨ m = 8 ∨ m = 9 := by omega
      rcases this with rfl | rfl | rfl | rfl | rfl | rfl | rfl | rfl | rfl | rfl <;> decide
    intro hm
    simp only [List.mem_cons, List.not_mem_nil, or_false] at hm
    rcases hm with hm | hm
    · exact d _ (by omega) hm
    · exact d _ (by omega) hm
theorem itoa_inj {i j : Nat} (hi : i < 100) (hj : j < 100) (h : Lib.itoa (i : Int) = Lib.itoa (j : Int)) : i = j := by
  rw [itoa_nat, itoa_nat] at h
  have h1 := numB_itoa i (by omega)
  rw [h, numB_itoa j (by omega)] at h1
  cases h1; rfl
theorem cut_at {c : UInt8} : ∀ {a b x y : Bs}, c ∉ a → c ∉ b → a ++ c :: x = b ++ c :: y → a = b
  | [], [], _, _, _, _, _ => rfl
  | [], b :: bt, x, y, _, hb, h => by
    simp only [List.nil_append, List.cons_append, List.cons.injEq] at h
    exact absurd (by rw [h.1]; simp) hb
  | a :: a_t, [], x, y, ha, _, h => by
    simp only [List.nil_append, List.cons_append, List.cons.injEq] at h
    exact absurd (by rw [← h.1]; simp) ha
  | a :: a_t, b :: bt, x, y, ha, hb, h => by
    simp only [List.cons_append, List.cons.injEq] at h
    rw [h.1, cut_at (fun hm => ha (List.mem_cons_of_mem _ hm)) (fun hm => hb (List.mem_cons_of_mem _ hm)) h.2]
mutual
theorem infer_pre : ∀ (l : Lay) {first : Bool} {nm : Bs} {s x : List Int} {ps : List ParamP} {deep left l' : Nat}, l.good deep left = some l' → left ≤ 64 → l.infer first nm s = .ok x ps → (∀ p ∈ ps, ∃ t, p.name = nm ++ 46 :: t) ∧ (ps.map ParamP.name).Nodup
  | .mk f b, first, nm, s, x, ps, deep, left, l', hg, hl, h => by
    by_cases h13 : f.kind = 13
    · obtain ⟨g1, g2, g3⟩ := good_body hg h13
      rw [infer_body h13] at h
      cases hb : inferS false (nm ++ [46]) 0 s b with
      | bad e => rw [hb] at h; cases h
      | ok y qs =>
        rw [hb] at h
        simp only at h
        split at h
        · cases h
          have hc : b.length ≤ 64 := by
            have h := g2
            rw [goods_count] at h
            split at h
            · rename_i h2; have := count_len b; omega
            · cases h
          obtain ⟨h1, h2⟩ := inferS_pre b (k := 0) g2 (by omega) (by omega) hb
          refine ⟨fun p hp => ?_, h2⟩
          obtain ⟨i, t, -, -, e⟩ := h1 p hp
          exact ⟨Lib.itoa (i : Int) ++ 46 :: t, by rw [e]; simp⟩
        · cases h
    · rw [infer_plain h13] at h
      obtain ⟨h1, h2⟩ := judge_names h
      refine ⟨fun p hp => ?_, h2⟩
      obtain ⟨c, hc⟩ := h1 p hp
      exact ⟨[c], hc⟩
theorem inferS_pre : ∀ (L : List Lay) {first : Bool} {ah : Bs} {k : Nat} {s x : List Int} {ps : List ParamP} {deep left l' : Nat}, goodS deep left L = some l' → left ≤ 64 → k + L.length ≤ 100 → inferS first ah k s L = .ok x ps → (∀ p ∈ ps, ∃ (i : Nat) (t : Bs), k ≤ i ∧ i < k + L.length ∧ p.name = ah ++ Lib.itoa (i : Int) ++ 46 :: t) ∧ (ps.map ParamP.name).Nodup
  | [], _, _, _, _, _, _, _, _, _, _, _, _, h => by
    simp [inferS] at h
    rw [h.2]
    exact ⟨fun p hp => by simp at hp, by simp⟩
  | l :: ls, first, ah, k, s, x, ps, deep, left, l', hg, hl, hk, h => by
    rw [goodS] at hg
    cases hm : l.good deep left with
    | none => rw [hm] at hg; cases hg
    | some m =>
      rw [hm] at hg
      simp only at hg
      have hml : m ≤ left := by
        have h := hm
        rw [good_count] at h
        split at h
        · cases h; omega
        · cases h
      rw [inferS] at h
      cases hb : l.infer first (ah ++ Lib.itoa (k : Int)) s with
      | bad e => rw [hb] at h; cases h
      | ok y qs =>
        rw [hb] at h
        simp only at h
        cases hc : inferS false ah (k + 1) y ls with
        | bad e => rw [hc] at h; cases h
        | ok z rs =>
          rw [hc] at h
          cases h
          simp only [List.length_cons] at hk
          obtain ⟨a1, a2⟩ := infer_pre l hm hl hb
          obtain ⟨b1, b2⟩ := inferS_pre ls hg (by omega) (show k + 1 + ls.length ≤ 100 by omega) hc
          refine ⟨fun p hp => ?_, ?_⟩
          · rcases List.mem_append.1 hp with hp | hp
            · obtain ⟨t, e⟩ := a1 p hp
              exact ⟨k, t, Nat.le_refl _, by simp, e⟩
            · obtain ⟨i, t, c1, c2, e⟩ := b1 p hp
              exact ⟨i, t, by omega, by simp only [List.length_cons]; omega, e⟩
          · rw [List.map_append, List.nodup_append]
            refine ⟨a2, b2, ?_⟩
            intro n1 hn1 n2 hn2 e
            obtain ⟨p, hp, rfl⟩ := List.mem_map.1 hn1
            obtain ⟨q, hq, rfl⟩ := List.mem_map.1 hn2
            obtain ⟨t, e1⟩ := a1 p hp
            obtain ⟨i, t', c1, c2, e2⟩ := b1 q hq
            rw [e1, e2, List.append_assoc, List.append_assoc] at e
            have e3 := List.append_cancel_left e
            have e4 := cut_at (digit_no (show k < 100 by omega)) (digit_no (show i < 100 by omega)) e3
            have := itoa_inj (by omega) (by omega) e4
            omega
end
/-- What the page's third says of two lists of layers. -/
theorem joins_told {inp s : List Int} {A B : List Lay} {all : List ParamP} (h : toldS ⟨inp, A ++ B, 2⟩ = .ok s all) :
    (all.map ParamP.name).Nodup ∧ ∃ t a, toldS ⟨inp, A, 2⟩ = .ok t a ∧ 1 ≤ t.length ∧ a.length ≤ all.length ∧ (A ≠ [] → t.length ≤ 3 → NoEmb B → ∃ b, toldS ⟨t, B, 2⟩ = .ok s b ∧ a.length + b.length = all.length ∧ (a ++ b).map ParamP.bare = all.map ParamP.bare) := by
  cases hg : goodD ⟨inp, A ++ B, 2⟩ with
  | false => unfold toldS at h; rw [hg, if_pos rfl] at h; cases h
  | true =>
    cases hf : fullS inp with
    | false => rw [told_good hg, if_pos hf] at h; cases h
    | true =>
      have hin := good_in hg
      have hne : inp ≠ [] := by rintro rfl; simp at hin
      rw [told_sq hg (by show (2 : Int) ≠ 1; decide) hf] at h
      have h : inferS true [] 0 inp (A ++ B) = .ok s all := h
      obtain ⟨l', hl⟩ := good_layers hg
      have hl : goodS 0 64 (A ++ B) = some l' := hl
      have hcl : (A ++ B).length ≤ 64 := by
        have h := hl
        rw [goods_count] at h
        split at h
        · rename_i h2; have := count_len (A ++ B); omega
        · cases h
      have hnd := (inferS_pre (A ++ B) hl (by omega) (show 0 + (A ++ B).length ≤ 100 by omega) h).2
      refine ⟨hnd, ?_⟩
      rw [goodS_append] at hl
      cases hA : goodS 0 64 A with
      | none => rw [hA] at hl; cases hl
      | some m =>
        rw [hA] at hl
        simp only at hl
        have hgA : goodD ⟨inp, A, 2⟩ = true := by
          unfold goodD at hg ⊢
          simp only [Bool.and_eq_true] at hg ⊢
          exact ⟨hg.1, by rw [hA]; rfl⟩
        rw [inferS_app] at h
        cases hi : inferS true [] 0 inp A with
        | bad e => rw [hi] at h; cases h
        | ok t a =>
          rw [hi] at h
          simp only at h
          obtain ⟨t1, t2⟩ := inferS_some A hi hne hf
          cases hj : inferS (true && A.isEmpty) [] (0 + A.length) t B with
          | bad e => rw [hj] at h; cases h
          | ok y qs =>
            rw [hj] at h
            cases h
            refine ⟨t, a, by rw [told_sq hgA (by show (2 : Int) ≠ 1; decide) hf]; exact hi, List.length_pos_iff.2 t1, by simp, fun hAn ht3 hnb => ?_⟩
            have hB : ∃ l2, goodS 0 64 B = some l2 := by
              have h1 := hl
              rw [goods_count] at h1 ⊢
              split at h1
              · rename_i h2
                have hm : m ≤ 64 := by
                  have h := hA
                  rw [goods_count] at h
                  split at h
                  · cases h; omega
                  · cases h
                rw [if_pos ⟨h2.1, by omega⟩]
                exact ⟨_, rfl⟩
              · cases h1
            have hgB : goodD ⟨t, B, 2⟩ = true := by
              obtain ⟨l2, hl2⟩ := hB
              obtain ⟨d1, d2, -, -⟩ := fullS_dims t2
              unfold goodD
              simp only [Bool.and_eq_true, decide_eq_true_eq, List.all_eq_true]
              exact ⟨⟨⟨⟨List.length_pos_iff.2 t1, ht3⟩, by simp⟩, fun x hx => d2 x hx⟩, by rw [hl2]; rfl⟩
            have hbr := inferS_bare B (true && A.isEmpty) [] [] (0 + A.length) 0 t
            rw [hj] at hbr
            rw [told_sq hgB (by show (2 : Int) ≠ 1; decide) t2]
            show ∃ b, inferS true [] 0 t B = .ok s b ∧ _
            rw [inferS_first hnb true (true && A.isEmpty)]
            cases hk : inferS (true && A.isEmpty) [] 0 t B with
            | bad e => rw [hk] at hbr; cases hbr
            | ok y' qs' =>
              rw [hk] at hbr
              simp only [Told.bare, Told.ok.injEq] at hbr
              obtain ⟨rfl, hq⟩ := hbr
              have hlq := congrArg List.length hq
              simp only [List.length_map] at hlq
              exact ⟨qs', rfl, by rw [List.length_append, hlq], by rw [List.map_append, List.map_append, hq]⟩
theorem names_ne {ps : List ParamP} (h : (ps.map ParamP.name).Nodup) {i j : Nat} (hi : i < ps.length) (hj : j < ps.length) (hij : i < j) : ((ba (ps[j]).name).toList == (ba (ps[i]).name).toList) = false := by
  have h1 : (ps[i]).name ≠ (ps[j]).name := by
    have := List.pairwise_iff_getElem.1 h i j (by simpa using hi) (by simpa using hj) hij
    simpa using this
  rw [ba_toList, ba_toList]
  simp only [beq_eq_false_iff_ne, ne_eq]
  exact fun e => h1 e.symm
theorem bare_eq {p q : ParamP} (h : p.bare = q.bare) : p.shape = q.shape ∧ p.inn = q.inn ∧ p.out = q.out := by
  unfold ParamP.bare at h
  injection h with h0 h1 h2 h3
  exact ⟨h1, h2, h3⟩
theorem bare_left {a b l : List ParamP} (h : (a ++ b).map ParamP.bare = l.map ParamP.bare) {m : Nat} (hm : m < a.length) (hl : m < l.length) : (a[m]).shape = (l[m]).shape ∧ (a[m]).inn = (l[m]).inn ∧ (a[m]).out = (l[m]).out := by
  have e := congrArg (fun x => x[m]?) h
  simp only [List.getElem?_map, List.getElem?_append_left hm, List.getElem?_eq_getElem hm, List.getElem?_eq_getElem hl, Option.map_some, Option.some.injEq] at e
  exact bare_eq e
theorem bare_right {a b l : List ParamP} (h : (a ++ b).map ParamP.bare = l.map ParamP.bare) {m : Nat} (hm : ¬ m < a.length) (hb : m - a.length < b.length) (hl : m < l.length) : (b[m - a.length]).shape = (l[m]).shape ∧ (b[m - a.length]).inn = (l[m]).inn ∧ (b[m - a.length]).out = (l[m]).out := by
  have e := congrArg (fun x => x[m]?) h
  simp only [List.getElem?_map, List.getElem?_append_right (show a.length ≤ m by omega), List.getElem?_eq_getElem hb, List.getElem?_eq_getElem hl, Option.map_some, Option.some.injEq] at e
  exact bare_eq e
end Go.Proofs.YtgokenbojppnhaaDoor
