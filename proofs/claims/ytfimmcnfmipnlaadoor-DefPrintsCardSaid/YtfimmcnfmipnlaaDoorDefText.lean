/- Layer 26, the plain law: a definition's text; what is read is told as it stood. No function of the program is named here. -/
import Derived.Test.YtfimmcnfmipnlaaDoorDefRef
import Derived.Lib.ItoaNum
namespace Go.Proofs.YtfimmcnfmipnlaaDoor
/-- A number behind a blank. -/
def numT (x : Int) : Bs := 32 :: Lib.itoa x
def numsT (l : List Int) : Bs := l.flatMap numT
/-- A line of a layer, no residual. -/
def lineT (k : Nat) (f : LayF) : Bs := nameB k ++ numsT ((placesK k).map f.at) ++ [10]
/-- The kind of a number, no residual. -/
def kindT (x : Int) : Option Nat := kindsT.find? (fun k => decide ((k : Int) = x))
mutual
def Lay.text : Lay → Bs
  | .mk f b => if f.kind = 13 then nameB 13 ++ [10] ++ textS b ++ endB ++ [10] else match kindT f.kind with
    | some k => lineT k f
    | none => []
def textS : List Lay → Bs
  | [] => []
  | l :: ls => l.text ++ textS ls
end
/-- A layer's numbers. -/
def nsOf (k : Nat) (f : LayF) : List Nat := (placesK k).map (fun p => (f.at p).toNat)
def okF (k : Nat) (f : LayF) : Bool := fitsK k (nsOf k f) && decide (f = setAll (LayF.kind0 k) (placesK k) (nsOf k f))
mutual
/-- How many layers there may be yet behind this one; none: it may not be. -/
def Lay.good (deep : Nat) (left : Nat) : Lay → Option Nat
  | .mk f b => if left = 0 then none else
    if f.kind = 13 then (if deep < 4 ∧ f = LayF.kind0 13 then goodS (deep + 1) (left - 1) b else none) else match kindT f.kind with
      | some k => if okF k f = true ∧ b.isEmpty = true then some (left - 1) else none
      | none => none
def goodS (deep : Nat) (left : Nat) : List Lay → Option Nat
  | [] => some left
  | l :: ls => match l.good deep left with
    | none => none
    | some left' => goodS deep left' ls
end
theorem textS_append : ∀ (a b : List Lay), textS (a ++ b) = textS a ++ textS b
  | [], b => by simp [textS]
  | l :: a, b => by simp [textS, textS_append a b]
theorem goodS_append : ∀ (a b : List Lay) (deep left : Nat), goodS deep left (a ++ b) = match goodS deep left a with
    | none => none
    | some l' => goodS deep l' b
  | [], b, deep, left => by simp [goodS]
  | l :: a, b, deep, left => by
    simp only [List.cons_append, goodS]
    cases l.good deep left with
    | none => rfl
    | some l' => exact goodS_append a b deep l'
/-- Digits and their number. -/
theorem dig_of {b : UInt8} (h : digB b = true) : 48 ≤ b.toNat ∧ b.toNat ≤ 57 ∧ UInt8.ofNat (48 + (b.toNat - 48)) = b := by
  simp only [digB, Bool.and_eq_true, decide_eq_true_eq] at h
  refine ⟨h.1, h.2, ?_⟩
  rw [show 48 + (b.toNat - 48) = b.toNat by omega]
  exact UInt8.ofNat_toNat
theorem snoc_ind {motive : Bs → Prop} (nil : motive []) (snoc : ∀ q b, motive q → motive (q ++ [b])) (s : Bs) : motive s := by
  have h : ∀ r : Bs, motive r.reverse := fun r => by
    induction r with
    | nil => exact nil
    | cons b r ih => rw [List.reverse_cons]; exact snoc _ _ ih
  have := h s.reverse
  rwa [List.reverse_reverse] at this
theorem head_app {q : Bs} {b : UInt8} (hq : q ≠ []) : (q ++ [b]).head? = q.head? := by
  cases q with
  | nil => exact absurd rfl hq
  | cons x q => rfl
theorem valB_pos : ∀ {s : Bs}, s ≠ [] → s.head? ≠ some 48 → (∀ b ∈ s, digB b = true) → 1 ≤ valB s := by
  intro s
  induction s using snoc_ind with
  | nil => intro h; exact absurd rfl h
  | snoc q b ih =>
    intro _ hh hd
    rw [valB_snoc]
    by_cases hq : q = []
    · subst hq
      have h1 := dig_of (hd b (by simp))
      have : b.toNat ≠ 48 := fun e => hh (by simp; exact UInt8.toNat_inj.1 e)
      omega
    · have := ih hq (by rw [head_app hq] at hh; exact hh) (fun c hc => hd c (by simp [hc]))
      omega
theorem dec_val : ∀ {s : Bs}, s ≠ [] → (s.head? ≠ some 48 ∨ s.length = 1) → (∀ b ∈ s, digB b = true) → Lib.decDigits (valB s) = s := by
  intro s
  induction s using snoc_ind with
  | nil => intro h; exact absurd rfl h
  | snoc q b ih =>
    intro _ hh hd
    have h1 := dig_of (hd b (by simp))
    rw [valB_snoc]
    by_cases hq : q = []
    · subst hq
      rw [Lib.decDigits, dif_pos (by simp [valB]; omega)]
      simp [valB, h1.2.2]
    · have hq1 : q.head? ≠ some 48 := by
        rcases hh with h | h
        · rw [head_app hq] at h; exact h
        · have h2 := List.length_pos_iff.2 hq; rw [List.length_append, List.length_singleton] at h; omega
      have hqd : ∀ c ∈ q, digB c = true := fun c hc => hd c (by simp [hc])
      have hp := valB_pos hq hq1 hqd
      rw [Lib.decDigits, dif_neg (by omega), show (10 * valB q + (b.toNat - 48)) / 10 = valB q by omega, ih hq (.inl hq1) hqd, show (10 * valB q + (b.toNat - 48)) % 10 = b.toNat - 48 by omega, h1.2.2]
theorem itoa_nat (n : Nat) : Lib.itoa (n : Int) = Lib.decDigits n := by
  unfold Lib.itoa
  rw [if_neg (by omega)]
  rfl
theorem numB_dec {x : Bs} {n : Nat} (h : numB x = some n) : Lib.itoa (n : Int) = x := by
  unfold numB at h
  split at h
  · cases h
  · rename_i hc
    split at h
    · rename_i hd
      cases h
      rw [itoa_nat]
      refine dec_val (fun e => hc (.inl e)) ?_ (fun b hb => List.all_eq_true.1 hd b hb)
      by_cases h1 : x.length = 1
      · exact .inr h1
      · refine .inl (fun e => hc (.inr (.inr ⟨e, ?_⟩)))
        have : x ≠ [] := fun e => hc (.inl e)
        have := List.length_pos_iff.2 this
        omega
    · cases h
theorem allB_nums : ∀ {ws : List Bs} {ns : List Nat}, allB ws = some ns → ws.flatMap (32 :: ·) = numsT (ns.map (fun (n : Nat) => (n : Int)))
  | [], ns, h => by simp [allB] at h; subst h; rfl
  | x :: ws, ns, h => by
    simp only [allB] at h
    cases h1 : numB x with
    | none => rw [h1] at h; cases h
    | some n =>
      rw [h1] at h
      cases h2 : allB ws with
      | none => rw [h2] at h; cases h
      | some l =>
        rw [h2] at h
        cases h
        simp only [List.flatMap_cons, List.map_cons, numsT, numT, numB_dec h1]
        rw [allB_nums h2]
        rfl
/-- Pieces, joined again. -/
theorem cut_join (c : UInt8) : ∀ {s x : Bs} {ws : List Bs}, cutAt c s = x :: ws → s = x ++ ws.flatMap (c :: ·)
  | [], x, ws, h => by simp [cutAt] at h; obtain ⟨rfl, rfl⟩ := h; rfl
  | y :: s, x, ws, h => by
    rw [cutAt_cons] at h
    obtain ⟨a, q, e⟩ := cutAt_some c s
    have ih := cut_join c e
    split at h
    · rename_i hy
      obtain ⟨rfl, rfl⟩ := List.cons.inj h
      rw [e, hy, ih]
      simp
    · rw [e] at h
      simp only [List.modifyHead_cons, List.cons.injEq] at h
      obtain ⟨rfl, rfl⟩ := h
      rw [ih]
      simp
/-- Lines, each ended. -/
def joinL (ls : List Bs) : Bs := ls.flatMap (· ++ [10])
theorem cut_lines : ∀ (c : UInt8) (b : Bs), b = (cutAt c b).dropLast.flatMap (· ++ [c]) ++ (cutAt c b).getLastD [] := by
  intro c b
  obtain ⟨x, ws, e⟩ := cutAt_some c b
  have h := cut_join c e
  rw [e]
  have key : ∀ (x : Bs) (ws : List Bs), x ++ ws.flatMap (c :: ·) = (x :: ws).dropLast.flatMap (· ++ [c]) ++ (x :: ws).getLastD [] := by
    intro x ws
    induction ws generalizing x with
    | nil => simp
    | cons y ws ih => simp only [List.flatMap_cons, List.dropLast_cons_cons, List.append_assoc]; rw [show (x :: y :: ws).getLastD [] = (y :: ws).getLastD [] by simp [List.getLastD]]; rw [← ih y]; simp
  rw [← key x ws]
  exact h
theorem set_nums {k : Nat} (hk : k ≤ 12) {ns : List Nat} (h : ns.length = (placesK k).length) :
    (placesK k).map (setAll (LayF.kind0 k) (placesK k) ns).at = ns.map (fun (n : Nat) => (n : Int)) := by
  have hh : k = 0 ∨ k = 1 ∨ k = 2 ∨ k = 3 ∨ k = 4 ∨ k = 5 ∨ k = 6 ∨ k = 7 ∨ k = 8 ∨ k = 9 ∨ k = 10 ∨ k = 11 ∨ k = 12 := by omega
  rcases hh with rfl | rfl | rfl | rfl | rfl | rfl | rfl | rfl | rfl | rfl | rfl | rfl | rfl
  all_goals first
    | (match ns, h with | [], _ => rfl)
    | (match ns, h with | [_], _ => rfl)
    | (match ns, h with | [_, _], _ => rfl)
    | (match ns, h with | [_, _, _, _, _], _ => rfl)
theorem kindT_of {k : Nat} (h : k ∈ kindsT) : kindT (k : Int) = some k ∧ k ≤ 12 ∧ (k : Int) ≠ 13 := by
  simp only [kindsT, List.mem_cons, List.not_mem_nil, or_false] at h
  rcases h with rfl | rfl | rfl | rfl | rfl | rfl | rfl | rfl | rfl | rfl | rfl | rfl <;> decide
/-- A line that is read as a layer is the layer's line. -/
theorem one_text {s x : Bs} {ws : List Bs} {f : LayF} (hs : wordsS s = x :: ws) (h : oneS (x :: ws) = some f) : ∃ k, kindT f.kind = some k ∧ f.kind ≠ 13 ∧ s ++ [10] = lineT k f ∧ okF k f = true := by
  have hc := cut_join 32 (words_one hs (by simp))
  rw [oneS_all] at h
  cases hk : kindB x with
  | none => rw [hk] at h; cases h
  | some k =>
    rw [hk] at h
    cases ha : allB ws with
    | none => rw [ha] at h; cases h
    | some ns =>
      rw [ha] at h
      simp only at h
      split at h
      · rename_i hf
        cases h
        obtain ⟨hn, hm⟩ := kindB_name hk
        obtain ⟨k1, k2, k3⟩ := kindT_of hm
        have hl : ns.length = (placesK k).length := by unfold fitsK at hf; simp at hf; exact hf.1
        have hkind : (setAll (LayF.kind0 k) (placesK k) ns).kind = (k : Int) := setAll_kind (fun p hp => by have := (places_ok hp).1; omega)
        have hnums := set_nums k2 hl
        have hns : nsOf k (setAll (LayF.kind0 k) (placesK k) ns) = ns := by
          unfold nsOf
          have := congrArg (List.map Int.toNat) hnums
          simpa [List.map_map, Function.comp_def] using this
        refine ⟨k, by rw [hkind]; exact k1, by rw [hkind]; exact k3, ?_, ?_⟩
        · unfold lineT
          rw [hnums, hc, allB_nums ha, hn]
        · unfold okF
          rw [hns, hf]
          simp
      · cases h
theorem seg_app {α : Type} (l : List α) {i j k : Nat} (h1 : i ≤ j) (h2 : j ≤ k) : (l.drop i).take (k - i) = (l.drop i).take (j - i) ++ (l.drop j).take (k - j) := by
  have e : k - i = (j - i) + (k - j) := by omega
  rw [e, List.take_add, List.drop_drop, show i + (j - i) = j by omega]
theorem seg_one {α : Type} {l : List α} {i : Nat} {x : α} (h : l[i]? = some x) : (l.drop i).take (i + 1 - i) = [x] := by
  obtain ⟨hi, rfl⟩ := List.getElem?_eq_some_iff.1 h
  rw [show i + 1 - i = 1 by omega, List.drop_eq_getElem_cons hi]
  rfl
theorem joinL_app (a b : List Bs) : joinL (a ++ b) = joinL a ++ joinL b := by simp [joinL]
theorem joinL_one (s : Bs) : joinL [s] = s ++ [10] := by simp [joinL]
/-- Layers that are read are told as the lines stood, and may be. -/
theorem body_text (ls : List Bs) : ∀ (fu deep i left : Nat) (acc L : List Lay) (i' l' : Nat), bodyP (ls.map wordsS) fu deep i left acc = (some L, i', l') → deep ≤ 4 → i ≤ ls.length →
    ∃ M, L = acc ++ M ∧ i ≤ i' ∧ i' ≤ ls.length ∧ joinL ((ls.drop i).take (i' - i)) = textS M ∧ goodS deep left M = some l'
  | 0, _, _, _, _, _, _, _, h, _, _ => by simp [bodyP] at h
  | fu + 1, deep, i, left, acc, L, i', l', h, hd, hi => by
    rw [bodyP, List.getElem?_map] at h
    cases hs : ls[i]? with
    | none =>
      rw [hs] at h
      simp only [Option.map_none, Prod.mk.injEq, Option.some.injEq] at h
      obtain ⟨rfl, rfl, rfl⟩ := h
      exact ⟨[], by simp, Nat.le_refl _, hi, by simp [joinL, textS], rfl⟩
    | some s =>
      rw [hs] at h
      simp only [Option.map_some] at h
      have hlt := (List.getElem?_eq_some_iff.1 hs).1
      have hone := seg_one hs
      cases hw : wordsS s with
      | nil => rw [hw] at h; simp at h
      | cons x ws =>
        rw [hw] at h
        simp only at h
        split at h
        · simp only [Prod.mk.injEq, Option.some.injEq] at h
          obtain ⟨rfl, rfl, rfl⟩ := h
          exact ⟨[], by simp, Nat.le_refl _, hi, by simp [joinL, textS], rfl⟩
        split at h
        · simp at h
        rename_i hleft
        split at h
        · cases ho : oneS (x :: ws) with
          | none => rw [ho] at h; simp at h
          | some f =>
            rw [ho] at h
            simp only at h
            obtain ⟨M, h1, h2, h3, h4, h5⟩ := body_text ls fu deep (i + 1) (left - 1) _ _ _ _ h hd hlt
            obtain ⟨k, k1, k2, k3, k4⟩ := one_text hw ho
            refine ⟨.mk f [] :: M, by rw [h1]; simp, by omega, h3, ?_, ?_⟩
            · rw [seg_app ls (Nat.le_succ i) h2, hone, joinL_app, joinL_one, h4, k3, textS, Lay.text, if_neg k2, k1]
            · rw [goodS, Lay.good, if_neg hleft, if_neg k2, k1]
              simp only
              rw [if_pos ⟨k4, rfl⟩]
              exact h5
        · rename_i hres
          split at h
          · simp at h
          rename_i hd4
          have hres' : x :: ws = [nameB 13] := Classical.not_not.1 hres
          obtain ⟨⟨ro, i1, l1⟩, hp⟩ : ∃ p, bodyP (ls.map wordsS) fu (deep + 1) (i + 1) (left - 1) [] = p := ⟨_, rfl⟩
          rw [hp] at h
          cases ro with
          | none => simp at h
          | some b =>
            simp only at h
            split at h
            · rename_i he
              obtain ⟨M1, a1, a2, a3, a4, a5⟩ := body_text ls fu (deep + 1) (i + 1) (left - 1) _ _ _ _ hp (by omega) hlt
              simp only [List.nil_append] at a1
              subst a1
              rw [List.getElem?_map] at he
              cases hs1 : ls[i1]? with
              | none => rw [hs1] at he; cases he
              | some s1 =>
                rw [hs1] at he
                simp only [Option.map_some, Option.some.injEq] at he
                have e1 := (words_end s1).1 he
                have hlt1 := (List.getElem?_eq_some_iff.1 hs1).1
                obtain ⟨M, h1, h2, h3, h4, h5⟩ := body_text ls fu deep (i1 + 1) l1 _ _ _ _ h hd hlt1
                have e0 : s = nameB 13 := by
                  have := cut_join 32 (words_one hw (by simp))
                  obtain ⟨rfl, rfl⟩ := List.cons.inj hres'
                  simpa using this
                refine ⟨.mk (LayF.kind0 13) b :: M, by rw [h1]; simp, by omega, h3, ?_, ?_⟩
                · rw [seg_app ls (Nat.le_succ i) (show i + 1 ≤ i' by omega), seg_app ls a2 (show i1 ≤ i' by omega), seg_app ls (Nat.le_succ i1) h2, hone, seg_one hs1]
                  simp only [joinL_app, joinL_one]
                  rw [a4, h4, textS, Lay.text, if_pos (show (LayF.kind0 13).kind = 13 from rfl), e0, e1]
                  simp
                · rw [goodS, Lay.good, if_neg hleft, if_pos (show (LayF.kind0 13).kind = 13 from rfl), if_pos (show deep < 4 ∧ LayF.kind0 13 = LayF.kind0 13 from ⟨by omega, rfl⟩), a5]
                  exact h5
            · simp at h
/-- A definition's text. -/
def printS (d : DefL) : Bs := inputB ++ numsT d.input ++ [10] ++ textS d.layers ++ lossB ++ [32] ++ (if d.loss = 1 then xentB else squareB) ++ [10]
def goodD (d : DefL) : Bool := decide (1 ≤ d.input.length ∧ d.input.length ≤ 3) && decide (d.loss = 1 ∨ d.loss = 2) && d.input.all (fun x => decide (1 ≤ x ∧ x ≤ 4096)) && (goodS 0 64 d.layers).isSome
theorem parseP_text {ls : List Bs} {rest : Bs} {d : DefL} {n : Nat} (h : parseP (ls.map wordsS) rest = (some d, n)) : rest = [] ∧ goodD d = true ∧ printS d = joinL ls := by
  unfold parseP at h
  rw [List.getElem?_map, List.length_map] at h
  cases hs : ls[0]? with
  | none => rw [hs] at h; simp at h
  | some s =>
    rw [hs] at h
    simp only [Option.map_some] at h
    split at h
    · simp at h
    rename_i hW
    cases hd : dimsB (wordsS s).tail with
    | none => rw [hd] at h; simp at h
    | some ns =>
      rw [hd] at h
      simp only at h
      obtain ⟨⟨ro, i1, l1⟩, hp⟩ : ∃ p, bodyP (ls.map wordsS) (ls.length + 1) 0 1 64 [] = p := ⟨_, rfl⟩
      rw [hp] at h
      cases ro with
      | none => simp at h
      | some L =>
        simp only [List.getElem?_map] at h
        have hlt := (List.getElem?_eq_some_iff.1 hs).1
        obtain ⟨M, a1, a2, a3, a4, a5⟩ := body_text ls _ 0 1 64 _ _ _ _ hp (by omega) hlt
        simp only [List.nil_append] at a1
        subst a1
        cases hs1 : ls[i1]? with
        | none => rw [hs1] at h; simp at h
        | some s1 =>
          rw [hs1] at h
          simp only [Option.map_some] at h
          split at h
          · simp at h
          rename_i hl
          split at h
          · simp at h
          rename_i hi
          split at h
          · simp at h
          rename_i hr
          simp only [Prod.mk.injEq, Option.some.injEq] at h
          obtain ⟨rfl, -⟩ := h
          have hlt1 := (List.getElem?_eq_some_iff.1 hs1).1
          have hlen : i1 + 1 = ls.length := by omega
          have hdim := dims_all (wordsS s).tail
          rw [hd] at hdim
          cases ha : allB (wordsS s).tail with
          | none => rw [ha] at hdim; cases hdim
          | some ms =>
            rw [ha] at hdim
            simp only at hdim
            split at hdim
            · rename_i hall
              cases hdim
              have hal := allB_len ha
              have hW1 : ¬ (wordsS s).length < 2 := fun h => hW (.inl h)
              have hW2 : ¬ 4 < (wordsS s).length := fun h => hW (.inr (.inl h))
              have hW3 : (wordsS s).head? = some inputB := Classical.not_not.1 (fun h => hW (.inr (.inr h)))
              have hw : wordsS s = inputB :: (wordsS s).tail := by
                cases hh : wordsS s with
                | nil => rw [hh] at hW3; cases hW3
                | cons y ys => rw [hh] at hW3; cases hW3; rfl
              rw [List.length_tail] at hal
              have e0 : s = inputB ++ numsT (ns.map (fun (n : Nat) => (n : Int))) := by
                rw [← allB_nums ha]
                exact cut_join 32 (words_one hw (by simp))
              have e1 : (lossK (wordsS s1) = 1 ∧ s1 = lossB ++ 32 :: xentB) ∨ (lossK (wordsS s1) = 2 ∧ s1 = lossB ++ 32 :: squareB) := by
                unfold lossK at hl ⊢
                split
                · rename_i h1
                  exact .inl ⟨rfl, by have := cut_join 32 (words_one h1 (by simp)); simpa using this⟩
                · rename_i h1
                  rw [if_neg h1] at hl
                  split
                  · rename_i h2
                    exact .inr ⟨rfl, by have := cut_join 32 (words_one h2 (by simp)); simpa using this⟩
                  · rename_i h2
                    rw [if_neg h2] at hl
                    exact absurd rfl hl
              refine ⟨Classical.not_not.1 hr, ?_, ?_⟩
              · unfold goodD
                simp only [Bool.and_eq_true, decide_eq_true_eq]
                refine ⟨⟨⟨by rw [List.length_map]; omega, by rcases e1 with ⟨h, -⟩ | ⟨h, -⟩; exact .inl h; exact .inr h⟩, ?_⟩, by rw [a5]; rfl⟩
                rw [List.all_map]
                refine List.all_eq_true.2 (fun n hn => ?_)
                have := List.all_eq_true.1 hall n hn
                simp only [decide_eq_true_eq] at this
                simp only [Function.comp, decide_eq_true_eq]
                omega
              · have hseg : ls = (ls.drop 0).take (0 + 1 - 0) ++ ((ls.drop 1).take (i1 - 1) ++ (ls.drop i1).take (i1 + 1 - i1)) := by
                  rw [← seg_app ls a2 (Nat.le_succ i1), ← seg_app ls (Nat.le_succ 0) (show 0 + 1 ≤ i1 + 1 by omega), hlen, Nat.sub_zero, List.drop_zero, List.take_length]
                rw [hseg, seg_one hs, seg_one hs1]
                simp only [joinL_app, joinL_one]
                rw [a4]
                unfold printS
                simp only
                rcases e1 with ⟨h, h'⟩ | ⟨h, h'⟩
                · rw [h, if_pos rfl, h', e0]; simp
                · rw [h, if_neg (by decide), h', e0]; simp
            · cases hdim
/-- What is read is told as it stood, and may be. -/
theorem parse_text {b : Bs} {d : DefL} {n : Nat} (h : parseP ((cutAt 10 b).dropLast.map wordsS) ((cutAt 10 b).getLastD []) = (some d, n)) : goodD d = true ∧ printS d = b := by
  obtain ⟨h1, h2, h3⟩ := parseP_text h
  refine ⟨h2, ?_⟩
  have e := cut_lines 10 b
  rw [h1, List.append_nil] at e
  rw [h3]
  exact e.symm
end Go.Proofs.YtfimmcnfmipnlaaDoor
