/- Layer 26 (def), the plain law: the page's own reading of a text is the program's. No function of the program is named here. -/
import Derived.Test.YtfimmcnfmipnlaaDoorDefBody
namespace Go.Proofs.YtfimmcnfmipnlaaDoor
theorem cutAt_cons_ne {c y : UInt8} {l h : Bs} {t : List Bs} (e : cutAt c l = h :: t) (hy : y ≠ c) : cutAt c (y :: l) = (y :: h) :: t := by
  rw [cutAt_cons, if_neg hy, e]; rfl
theorem cutAt_inj {c : UInt8} : ∀ {a b : Bs}, cutAt c a = cutAt c b → a = b
  | [], [], _ => rfl
  | [], y :: b, h => by
    obtain ⟨p, q, e⟩ := cutAt_some c b
    rw [cutAt_cons] at h
    split at h <;> simp [cutAt, e] at h
  | y :: a, [], h => by
    obtain ⟨p, q, e⟩ := cutAt_some c a
    rw [cutAt_cons] at h
    split at h <;> simp [cutAt, e] at h
  | y :: a, z :: b, h => by
    obtain ⟨p, q, e⟩ := cutAt_some c a
    obtain ⟨p', q', e'⟩ := cutAt_some c b
    rw [cutAt_cons, cutAt_cons] at h
    by_cases h1 : y = c <;> by_cases h2 : z = c
    · rw [if_pos h1, if_pos h2] at h
      rw [h1, h2, cutAt_inj (List.cons.inj h).2]
    · rw [if_pos h1, if_neg h2, e'] at h; simp at h
    · rw [if_neg h1, if_pos h2, e] at h; simp at h
    · rw [if_neg h1, if_neg h2, e, e'] at h
      simp only [List.modifyHead_cons, List.cons.injEq] at h
      obtain ⟨⟨rfl, rfl⟩, rfl⟩ := h
      rw [cutAt_inj (e.trans e'.symm)]
/-- All numbers of words, or none. -/
def allB : List Bs → Option (List Nat)
  | [] => some []
  | x :: xs => match numB x with
    | none => none
    | some n => match allB xs with
      | none => none
      | some l => some (n :: l)
theorem allB_len : ∀ {L : List Bs} {n : List Nat}, allB L = some n → n.length = L.length
  | [], n, h => by simp [allB] at h; subst h; rfl
  | x :: xs, n, h => by
    simp only [allB] at h
    cases h1 : numB x with
    | none => rw [h1] at h; simp at h
    | some m =>
      rw [h1] at h
      cases h2 : allB xs with
      | none => rw [h2] at h; simp at h
      | some l =>
        rw [h2] at h
        simp at h
        subst h
        simp [allB_len h2]
theorem allB_none : ∀ {L : List Bs} {x : Bs}, x ∈ L → numB x = none → allB L = none
  | y :: L, x, h, e => by
    simp only [allB]
    rcases List.mem_cons.1 h with rfl | h
    · rw [e]
    · split
      · rfl
      · rw [allB_none h e]
theorem allB_snoc : ∀ {L : List Bs} {x : Bs} {l : List Nat} {n : Nat}, allB L = some l → numB x = some n → allB (L ++ [x]) = some (l ++ [n])
  | [], x, l, n, h, e => by simp [allB] at h; subst h; simp [allB, e]
  | y :: L, x, l, n, h, e => by
    simp only [allB, List.cons_append] at h ⊢
    cases h1 : numB y with
    | none => rw [h1] at h; simp at h
    | some m =>
      rw [h1] at h
      cases h2 : allB L with
      | none => rw [h2] at h; simp at h
      | some k =>
        rw [h2] at h
        simp at h
        subst h
        rw [allB_snoc h2 e]
        rfl
/-- The page's kinds, in order. -/
def kindR (x : Bs) : Option Nat := [1, 2, 3, 4, 5, 6, 7, 8, 9, 10, 11, 12, 13].find? (fun k => decide (nameB k = x))
theorem kindB_name {x : Bs} {k : Nat} (h : kindB x = some k) : nameB k = x ∧ k ∈ kindsT := by
  have h1 := List.find?_some h
  have h2 := List.mem_of_find?_eq_some h
  exact ⟨by simpa using h1, h2⟩
theorem kindR_eq (x : Bs) : kindR x = match kindB x with
    | some k => some k
    | none => if x = nameB 13 then some 13 else none := by
  cases h : kindB x with
  | some k =>
    obtain ⟨rfl, hk⟩ := kindB_name h
    simp only [kindsT, List.mem_cons, List.not_mem_nil, or_false] at hk
    rcases hk with rfl | rfl | rfl | rfl | rfl | rfl | rfl | rfl | rfl | rfl | rfl | rfl <;> decide
  | none =>
    have hno : ∀ k ∈ kindsT, nameB k ≠ x := fun k hk => by
      have := List.find?_eq_none.1 h k hk
      simpa using this
    by_cases hx : x = nameB 13
    · subst hx; decide
    · rw [if_neg hx]
      refine List.find?_eq_none.2 (fun k hk => ?_)
      simp only [List.mem_cons, List.not_mem_nil, or_false] at hk
      simp only [decide_eq_true_eq]
      rcases hk with rfl | rfl | rfl | rfl | rfl | rfl | rfl | rfl | rfl | rfl | rfl | rfl | rfl
      iterate 12 exact hno _ (by decide)
      exact fun e => hx e.symm
/-- Are a kind's numbers, from the j-th on, within bounds? -/
def fitsFrom (k : Nat) : Nat → List Nat → Bool
  | _, [] => true
  | j, n :: ns => decide (lowK k j ≤ (n : Int) ∧ (n : Int) ≤ highK k) && fitsFrom k (j + 1) ns
theorem fitsFrom_iff {k : Nat} : ∀ {ns : List Nat} {j : Nat}, fitsFrom k j ns = true ↔ ∀ i, (h : i < ns.length) → lowK k (j + i) ≤ (ns[i] : Int) ∧ (ns[i] : Int) ≤ highK k
  | [], j => by simp [fitsFrom]
  | n :: ns, j => by
    rw [fitsFrom, Bool.and_eq_true, fitsFrom_iff, decide_eq_true_eq]
    constructor
    · rintro ⟨h1, h2⟩ i h
      cases i with
      | zero => exact h1
      | succ i => rw [show j + (i + 1) = j + 1 + i by omega]; exact h2 i (by simpa using h)
    · intro h
      exact ⟨h 0 (by simp), fun i hi => by have := h (i + 1) (by simpa using hi); rw [show j + (i + 1) = j + 1 + i by omega] at this; exact this⟩
def fitsK (k : Nat) (ns : List Nat) : Bool := decide (ns.length = (placesK k).length) && fitsFrom k 0 ns
/-- A layer with its numbers. -/
def setAll : LayF → List Nat → List Nat → LayF
  | f, p :: ps, n :: ns => setAll (f.set p n) ps ns
  | f, _, _ => f
theorem numsFrom_all {k : Nat} : ∀ {ws : List Bs} {ps : List Nat} {j : Nat} {f : LayF}, numsFrom k j f ws ps = match allB ws with
    | none => none
    | some ns => if ns.length = ps.length ∧ fitsFrom k j ns = true then some (setAll f ps ns) else none
  | [], [], _, _ => by simp [numsFrom, allB, fitsFrom, setAll]
  | [], _ :: _, _, _ => by simp [numsFrom, allB]
  | x :: ws, [], _, _ => by
    rw [numsFrom_len (by simp)]
    cases h : allB (x :: ws) with
    | none => rfl
    | some ns =>
      have := allB_len h
      cases ns with
      | nil => simp at this
      | cons n ns => simp
  | x :: ws, p :: ps, j, f => by
    simp only [numsFrom, allB]
    cases h1 : numB x with
    | none => rfl
    | some n =>
      simp only
      rw [numsFrom_all]
      cases h2 : allB ws with
      | none => simp
      | some ns =>
        simp only [List.length_cons, fitsFrom, setAll, Bool.and_eq_true, decide_eq_true_eq]
        by_cases h3 : lowK k j ≤ (n : Int) ∧ (n : Int) ≤ highK k
        · rw [if_pos h3]
          by_cases h4 : ns.length = ps.length ∧ fitsFrom k (j + 1) ns = true
          · rw [if_pos h4, if_pos ⟨by omega, h3, h4.2⟩]
          · rw [if_neg h4, if_neg (fun h => h4 ⟨by omega, h.2.2⟩)]
        · rw [if_neg h3, if_neg (fun h => h3 h.2.1)]
/-- A line's layer, as the page reads it. -/
def layerR (s : Bs) : Option LayF := match allB (cutAt 32 s).tail with
  | none => none
  | some ns => match kindR ((cutAt 32 s).headD []) with
    | none => none
    | some k => if fitsK k ns = true then some (setAll (LayF.kind0 k) (placesK k) ns) else none
theorem numB_nil : numB [] = none := by simp [numB]
theorem kindR_nil : kindR [] = none := by decide
theorem oneS_all (x : Bs) (ws : List Bs) : oneS (x :: ws) = match kindB x with
    | none => none
    | some k => match allB ws with
      | none => none
      | some ns => if fitsK k ns = true then some (setAll (LayF.kind0 k) (placesK k) ns) else none := by
  simp only [oneS]
  cases h : kindB x with
  | none => rfl
  | some k =>
    simp only
    rw [numsFrom_all]
    cases allB ws with
    | none => rfl
    | some ns => simp [fitsK, LayF.kind0]
theorem layerR_eq (s : Bs) : layerR s = match wordsS s with
    | [] => none
    | x :: ws => if x :: ws = [nameB 13] then some (LayF.kind0 13) else oneS (x :: ws) := by
  obtain ⟨x, ws, e⟩ := cutAt_some 32 s
  unfold layerR wordsS
  rw [e]
  simp only [List.tail_cons, List.headD_cons]
  by_cases hn : [] ∈ x :: ws
  · rw [if_pos hn]
    rcases List.mem_cons.1 hn with h | h
    · rw [← h, kindR_nil]
      cases allB ws <;> rfl
    · rw [allB_none h numB_nil]
  · rw [if_neg hn]
    simp only
    rw [oneS_all, kindR_eq]
    cases h : kindB x with
    | some k =>
      have hx : ¬ x :: ws = [nameB 13] := fun e => by
        have h1 : x = nameB 13 := (List.cons.inj e).1
        rw [h1, show kindB (nameB 13) = none by decide] at h
        cases h
      rw [if_neg hx]
    | none =>
      simp only
      by_cases h1 : x = nameB 13
      · rw [if_pos h1]
        subst h1
        cases ws with
        | nil => simp [allB, fitsK, fitsFrom, placesK, setAll]
        | cons y ys =>
          rw [if_neg (by simp)]
          cases h2 : allB (y :: ys) with
          | none => rfl
          | some ns => have := allB_len h2; simp only [fitsK, placesK]; rw [if_neg]; simp; intro h3; rw [h3] at this; simp at this
      · rw [if_neg h1, if_neg (fun e => h1 (List.cons.inj e).1)]
        cases allB ws <;> rfl
/-- Layers out of lines, as the page reads them: what was read, or none; the line; how many. -/
def bodyR (ls : List Bs) : Nat → Nat → Nat → Nat → List Lay → Option (List Lay) × Nat × Nat
  | 0, _, i, count, _ => (none, i, count)
  | fu + 1, deep, i, count, acc =>
    match ls[i]? with
    | none => (some acc, i, count)
    | some s => match layerR s with
      | none => (some acc, i, count)
      | some f => if count = 64 ∨ (f.kind = 13 ∧ deep = 4) then (none, i, count) else
        if f.kind = 13 then match bodyR ls fu (deep + 1) (i + 1) (count + 1) [] with
          | (none, i', c') => (none, i', c')
          | (some b, i', c') => if ls[i']? = some endB then bodyR ls fu deep (i' + 1) c' (acc ++ [.mk f b]) else (none, i', c')
        else bodyR ls fu deep (i + 1) (count + 1) (acc ++ [.mk f []])
def xentB : Bs := [120, 101, 110, 116]
def squareB : Bs := [115, 113, 117, 97, 114, 101]
/-- A line that ends nothing. -/
def BadLine (s : Bs) : Prop := (wordsS s).head? ≠ some endB ∧ (wordsS s).head? ≠ some lossB
theorem words_one {s : Bs} {L : List Bs} (h : wordsS s = L) (hL : L ≠ []) : cutAt 32 s = L := by
  unfold wordsS at h
  split at h
  · exact absurd h.symm hL
  · exact h
theorem words_end (s : Bs) : wordsS s = [endB] ↔ s = endB :=
  ⟨fun h => cutAt_inj (c := 32) ((words_one h (by simp)).trans (by decide)), fun h => by subst h; decide⟩
theorem setAll_kind : ∀ {ps : List Nat} {f : LayF} {ns : List Nat}, (∀ p ∈ ps, p ≠ 0) → (setAll f ps ns).kind = f.kind
  | [], f, ns, _ => by simp [setAll]
  | p :: ps, f, [], _ => by simp [setAll]
  | p :: ps, f, n :: ns, h => by
    rw [setAll, setAll_kind (fun q hq => h q (by simp [hq]))]
    have := h p (by simp)
    unfold LayF.set
    split <;> simp_all
theorem oneS_kind {x : Bs} {ws : List Bs} {f : LayF} (h : oneS (x :: ws) = some f) : f.kind ≠ 13 := by
  rw [oneS_all] at h
  cases hk : kindB x with
  | none => rw [hk] at h; simp at h
  | some k =>
    rw [hk] at h
    cases ha : allB ws with
    | none => rw [ha] at h; simp at h
    | some ns =>
      rw [ha] at h
      simp only at h
      split at h
      · cases h
        rw [setAll_kind (fun p hp => by have := (places_ok hp).1; omega)]
        have hm := (kindB_name hk).2
        simp only [LayF.kind0]
        intro e
        have e' : k = 13 := by omega
        subst e'
        exact absurd hm (by decide)
      · simp at h
/-- What the program reads, against what the page reads. -/
def BodyEq (ls : List Bs) (p r : Option (List Lay) × Nat × Nat) : Prop :=
  (∃ L, p.1 = some L ∧ r = (some L, p.2.1, 64 - p.2.2)) ∨ (p.1 = none ∧ r.2.1 = p.2.1 ∧ (r.1 = none ∨ ∃ s, ls[p.2.1]? = some s ∧ BadLine s))
theorem body_eq (ls : List Bs) : ∀ (fu deep i left : Nat) (acc : List Lay), left ≤ 64 → ls.length - i + 1 ≤ fu → BodyEq ls (bodyP (ls.map wordsS) fu deep i left acc) (bodyR ls fu deep i (64 - left) acc)
  | 0, _, i, left, _, _, h => by omega
  | fu + 1, deep, i, left, acc, hl, hfu => by
    rw [bodyP, bodyR, List.getElem?_map]
    cases hs : ls[i]? with
    | none => exact .inl ⟨acc, rfl, rfl⟩
    | some s =>
      have hi : i < ls.length := (List.getElem?_eq_some_iff.1 hs).1
      simp only [Option.map_some]
      rw [layerR_eq]
      cases hw : wordsS s with
      | nil => exact .inr ⟨rfl, rfl, .inr ⟨s, hs, by simp [BadLine, hw]⟩⟩
      | cons x ws =>
        simp only
        by_cases hx : x = endB ∨ x = lossB
        · rw [if_pos hx]
          have h1 : ¬ x :: ws = [nameB 13] := fun e => by
            have h1 : x = nameB 13 := (List.cons.inj e).1
            rw [h1] at hx
            exact absurd hx (by decide)
          have h2 : oneS (x :: ws) = none := by
            rw [oneS_all]
            have : kindB x = none := by rcases hx with rfl | rfl <;> decide
            rw [this]
          rw [if_neg h1, h2]
          exact .inl ⟨acc, rfl, rfl⟩
        · rw [if_neg hx]
          have hbad : BadLine s := by
            unfold BadLine
            rw [hw]
            simp only [List.head?_cons, ne_eq, Option.some.injEq]
            exact ⟨fun h => hx (.inl h), fun h => hx (.inr h)⟩
          by_cases h0 : left = 0
          · rw [if_pos h0]
            subst h0
            split
            · exact .inr ⟨rfl, rfl, .inr ⟨s, hs, hbad⟩⟩
            · rw [if_pos (.inl rfl)]; exact .inr ⟨rfl, rfl, .inl rfl⟩
          · rw [if_neg h0]
            have e1 : 64 - left + 1 = 64 - (left - 1) := by omega
            by_cases hr : x :: ws = [nameB 13]
            · rw [if_neg (by simpa using hr), if_pos hr]
              simp only
              have hk : (LayF.kind0 13).kind = 13 := rfl
              by_cases hd : deep = 4
              · rw [if_pos hd, if_pos (.inr ⟨hk, hd⟩)]
                exact .inr ⟨rfl, rfl, .inl rfl⟩
              · rw [if_neg hd, if_neg (by simp only [hk, true_and]; omega), if_pos hk, e1]
                have ih := body_eq ls fu (deep + 1) (i + 1) (left - 1) [] (by omega) (by omega)
                have hat := bodyP_at (ls.map wordsS) fu (deep + 1) (i + 1) (left - 1) []
                obtain ⟨⟨o, i', l'⟩, hp⟩ : ∃ p, bodyP (ls.map wordsS) fu (deep + 1) (i + 1) (left - 1) [] = p := ⟨_, rfl⟩
                obtain ⟨⟨o2, i2, c2⟩, hq⟩ : ∃ p, bodyR ls fu (deep + 1) (i + 1) (64 - (left - 1)) [] = p := ⟨_, rfl⟩
                rw [hp, hq] at ih
                rw [hp] at hat
                rw [hp, hq]
                rcases ih with ⟨L, h1, h2⟩ | ⟨h1, h2, h3⟩
                · simp only at h1 h2
                  subst h1
                  cases h2
                  simp only at hat
                  simp only [List.getElem?_map]
                  by_cases he : ls[i']? = some endB
                  · rw [if_pos (by rw [he]; simp only [Option.map_some]; rw [(words_end endB).2 rfl]), if_pos he]
                    exact body_eq ls fu deep (i' + 1) l' _ (by omega) (by omega)
                  · rw [if_neg, if_neg he]
                    · exact .inr ⟨rfl, rfl, .inl rfl⟩
                    · intro h
                      cases h5 : ls[i']? with
                      | none => rw [h5] at h; simp at h
                      | some s' =>
                        rw [h5] at h
                        simp only [Option.map_some, Option.some.injEq] at h
                        exact he (by rw [h5, (words_end s').1 h])
                · simp only at h1 h2
                  subst h1
                  subst h2
                  simp only
                  rcases h3 with h3 | ⟨s', h4, h5⟩
                  · simp only at h3
                    subst h3
                    exact .inr ⟨rfl, rfl, .inl rfl⟩
                  · cases o2 with
                    | none => exact .inr ⟨rfl, rfl, .inl rfl⟩
                    | some L =>
                      simp only at h4 ⊢
                      rw [if_neg]
                      · exact .inr ⟨rfl, rfl, .inl rfl⟩
                      · intro h
                        rw [h4] at h
                        cases h
                        exact h5.1 (by rw [(words_end endB).2 rfl]; rfl)
            · rw [if_pos (by simpa using hr), if_neg hr]
              cases ho : oneS (x :: ws) with
              | none => exact .inr ⟨rfl, rfl, .inr ⟨s, hs, hbad⟩⟩
              | some f =>
                have hk := oneS_kind ho
                simp only
                rw [if_neg (by omega), if_neg hk, e1]
                exact body_eq ls fu deep (i + 1) (left - 1) _ (by omega) (by omega)
/-- A definition. -/
structure DefL where
  input : List Int
  layers : List Lay
  loss : Int
def inputB : Bs := [105, 110, 112, 117, 116]
def lossK (W : List Bs) : Int := if W = [lossB, xentB] then 1 else if W = [lossB, squareB] then 2 else 0
/-- Words' numbers, each from 1 to 4096. -/
def dimsB : List Bs → Option (List Nat)
  | [] => some []
  | x :: xs => match numB x with
    | none => none
    | some n => if 1 ≤ n ∧ n ≤ 4096 then match dimsB xs with
        | none => none
        | some l => some (n :: l)
      else none
/-- What a text says, as the program reads it: a definition, or none; the line. -/
def parseP (LL : List (List Bs)) (rest : Bs) : Option DefL × Nat :=
  match LL[0]? with
  | none => (none, 0)
  | some W => if W.length < 2 ∨ 4 < W.length ∨ W.head? ≠ some inputB then (none, 0) else
    match dimsB W.tail with
    | none => (none, 0)
    | some ns => match bodyP LL (LL.length + 1) 0 1 64 [] with
      | (none, i, _) => (none, i)
      | (some L, i, _) => match LL[i]? with
        | none => (none, i)
        | some W' => if lossK W' = 0 then (none, i) else if i + 1 < LL.length then (none, i + 1) else if rest ≠ [] then (none, LL.length) else (some ⟨ns.map (fun (n : Nat) => (n : Int)), L, lossK W'⟩, 0)
def lossS (s : Bs) : Int := if s = lossB ++ 32 :: xentB then 1 else if s = lossB ++ 32 :: squareB then 2 else 0
/-- As the page reads it. -/
def parseR (ls : List Bs) (rest : Bs) : Option DefL × Nat :=
  match ls[0]? with
  | none => (none, 0)
  | some s => match allB (cutAt 32 s).tail with
    | none => (none, 0)
    | some ns => if (cutAt 32 s).headD [] ≠ inputB ∨ ns.length < 1 ∨ 3 < ns.length then (none, 0) else
      if ns.all (fun n => decide (1 ≤ n ∧ n ≤ 4096)) = false then (none, 0) else
      match bodyR ls (ls.length + 1) 0 1 0 [] with
      | (none, i, _) => (none, i)
      | (some L, i, _) => match ls[i]? with
        | none => (none, i)
        | some s' => if lossS s' = 0 then (none, i) else if i + 1 ≠ ls.length ∨ rest ≠ [] then (none, i + 1) else (some ⟨ns.map (fun (n : Nat) => (n : Int)), L, lossS s'⟩, 0)
theorem dims_all : ∀ (L : List Bs), dimsB L = match allB L with
    | none => none
    | some ns => if ns.all (fun n => decide (1 ≤ n ∧ n ≤ 4096)) = true then some ns else none
  | [] => by simp [dimsB, allB]
  | x :: xs => by
    simp only [dimsB, allB]
    cases h : numB x with
    | none => rfl
    | some n =>
      simp only
      rw [dims_all xs]
      cases h2 : allB xs with
      | none => simp
      | some ns =>
        simp only [List.all_cons, Bool.and_eq_true, decide_eq_true_eq]
        by_cases h3 : 1 ≤ n ∧ n ≤ 4096
        · rw [if_pos h3]
          by_cases h4 : ns.all (fun n => decide (1 ≤ n ∧ n ≤ 4096)) = true
          · rw [if_pos h4, if_pos ⟨h3, h4⟩]
          · rw [if_neg h4, if_neg (fun h => h4 h.2)]
        · rw [if_neg h3, if_neg (fun h => h3 h.1)]
theorem lossS_eq (s : Bs) : lossS s = lossK (wordsS s) := by
  have a : wordsS (lossB ++ 32 :: xentB) = [lossB, xentB] := by decide
  have b : wordsS (lossB ++ 32 :: squareB) = [lossB, squareB] := by decide
  have a' : wordsS s = [lossB, xentB] ↔ s = lossB ++ 32 :: xentB := ⟨fun h => cutAt_inj (c := 32) ((words_one h (by simp)).trans (words_one a (by simp)).symm), fun h => by rw [h, a]⟩
  have b' : wordsS s = [lossB, squareB] ↔ s = lossB ++ 32 :: squareB := ⟨fun h => cutAt_inj (c := 32) ((words_one h (by simp)).trans (words_one b (by simp)).symm), fun h => by rw [h, b]⟩
  unfold lossS lossK
  simp only [a', b']
theorem bad_loss {s : Bs} (h : BadLine s) : lossS s = 0 := by
  rw [lossS_eq]
  unfold lossK
  rw [if_neg, if_neg]
  · intro e; exact h.2 (by rw [e]; rfl)
  · intro e; exact h.2 (by rw [e]; rfl)
theorem parse_eq (ls : List Bs) (rest : Bs) : parseR ls rest = parseP (ls.map wordsS) rest := by
  unfold parseR parseP
  rw [List.getElem?_map, List.length_map]
  cases hs : ls[0]? with
  | none => rfl
  | some s =>
    simp only [Option.map_some]
    obtain ⟨x, ws, e⟩ := cutAt_some 32 s
    have ew : wordsS s = if [] ∈ x :: ws then [] else x :: ws := by unfold wordsS; rw [e]
    rw [show (cutAt 32 s).tail = ws by rw [e]; rfl, show (cutAt 32 s).headD [] = x by rw [e]; rfl, ew]
    by_cases hn : [] ∈ x :: ws
    · rw [if_pos hn, if_pos (.inl (by simp))]
      rcases List.mem_cons.1 hn with h | h
      · cases allB ws with
        | none => rfl
        | some ns => simp only; rw [if_pos (.inl (by rw [← h]; decide))]
      · rw [allB_none h numB_nil]
    · rw [if_neg hn]
      simp only [List.tail_cons]
      rw [dims_all]
      cases ha : allB ws with
      | none => simp
      | some ns =>
        have hl := allB_len ha
        simp only
        by_cases hc : x ≠ inputB ∨ ns.length < 1 ∨ 3 < ns.length
        · rw [if_pos hc, if_pos]
          rcases hc with hc | hc | hc
          · exact .inr (.inr (by simpa using hc))
          · exact .inl (by simp; omega)
          · exact .inr (.inl (by simp; omega))
        · rw [if_neg hc]
          rw [if_neg (show ¬ ((x :: ws).length < 2 ∨ 4 < (x :: ws).length ∨ (x :: ws).head? ≠ some inputB) by
            intro h
            simp only [List.length_cons, List.head?_cons, ne_eq, Option.some.injEq] at h
            apply hc
            rcases h with h | h | h
            · exact .inr (.inl (by omega))
            · exact .inr (.inr (by omega))
            · exact .inl h)]
          · by_cases hb : ns.all (fun n => decide (1 ≤ n ∧ n ≤ 4096)) = true
            · rw [if_neg (by rw [hb]; simp), if_pos hb]
              simp only
              have q := body_eq ls (ls.length + 1) 0 1 64 [] (by omega) (by omega)
              have hat := bodyP_at (ls.map wordsS) (ls.length + 1) 0 1 64 []
              rw [Nat.sub_self] at q
              obtain ⟨⟨o, i', l'⟩, hp⟩ : ∃ p, bodyP (ls.map wordsS) (ls.length + 1) 0 1 64 [] = p := ⟨_, rfl⟩
              obtain ⟨⟨o2, i2, c2⟩, hq⟩ : ∃ p, bodyR ls (ls.length + 1) 0 1 0 [] = p := ⟨_, rfl⟩
              rw [hp, hq] at q
              rw [hp, hq]
              rw [hp] at hat
              rcases q with ⟨L, h1, h2⟩ | ⟨h1, h2, h3⟩
              · simp only at h1 h2
                subst h1
                cases h2
                simp only [List.getElem?_map]
                cases h5 : ls[i']? with
                | none => rfl
                | some s' =>
                  have hi := (List.getElem?_eq_some_iff.1 h5).1
                  simp only [Option.map_some]
                  rw [lossS_eq]
                  by_cases h6 : lossK (wordsS s') = 0
                  · rw [if_pos h6, if_pos h6]
                  · rw [if_neg h6, if_neg h6]
                    by_cases h7 : i' + 1 < ls.length
                    · rw [if_pos (.inl (by omega)), if_pos h7]
                    · rw [if_neg h7]
                      have h8 : i' + 1 = ls.length := by omega
                      by_cases h9 : rest ≠ []
                      · rw [if_pos (.inr h9), if_pos h9, h8]
                      · rw [if_neg h9, if_neg (fun h => by rcases h with h | h; exact h h8; exact h9 h)]
              · simp only at h1 h2
                subst h1
                subst h2
                simp only
                cases o2 with
                | none => rfl
                | some L =>
                  rcases h3 with h3 | ⟨s', h4, h5⟩
                  · simp at h3
                  · simp only at h4 ⊢
                    rw [h4]
                    simp only
                    rw [if_pos (bad_loss h5)]
            · rw [if_pos (by simpa using hb), if_neg hb]
end Go.Proofs.YtfimmcnfmipnlaaDoor
