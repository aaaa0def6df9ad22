/- Layer 26, the plain law: the layers' lines are read as the layers. -/
import Derived.Test.YtkdfenkpfffcaaaDoorDefBackLaw
namespace Go.Proofs.YtkdfenkpfffcaaaDoor
theorem name_other {k : Nat} (h : k ∈ kindsT) : nameB k ≠ endB ∧ nameB k ≠ lossB ∧ nameB k ≠ nameB 13 := by
  simp only [kindsT, List.mem_cons, List.not_mem_nil, or_false] at h
  rcases h with rfl | rfl | rfl | rfl | rfl | rfl | rfl | rfl | rfl | rfl | rfl | rfl <;> decide
theorem words_loop : wordsS (nameB 13) = [nameB 13] := by decide
theorem words_endB : wordsS endB = [endB] := by decide
theorem at_drop {α : Type} {L R : List α} {x : α} {i : Nat} (h : L.drop i = x :: R) : i < L.length ∧ L[i]? = some x ∧ L.drop (i + 1) = R := by
  have hi : i < L.length := by
    apply Classical.byContradiction
    intro h'
    rw [List.drop_eq_nil_of_le (by omega)] at h
    cases h
  rw [List.drop_eq_getElem_cons hi] at h
  cases h
  exact ⟨hi, List.getElem?_eq_getElem hi, rfl⟩
theorem over_drop {α : Type} : ∀ {A L R : List α} {i : Nat}, L.drop i = A ++ R → L.drop (i + A.length) = R
  | [], _, _, _, h => h
  | x :: A, L, R, i, h => by
    have := over_drop (A := A) (at_drop (x := x) h).2.2
    rw [← this]
    simp only [List.length_cons]
    congr 1
    omega
theorem head_not {k : Nat} {ws : List Bs} (h : nameB k ≠ nameB 13) : nameB k :: ws ≠ [nameB 13] := fun e => h (List.cons.inj e).1
mutual
theorem body_one {LL : List (List Bs)} : ∀ (l : Lay) {deep left l' i fu : Nat} {R : List (List Bs)} (acc : List Lay), l.good deep left = some l' → LL.drop i = l.lines.map wordsS ++ R → LL.length - i + 1 ≤ fu →
    ∃ fu', LL.length - (i + l.lines.length) + 1 ≤ fu' ∧ bodyP LL fu deep i left acc = bodyP LL fu' deep (i + l.lines.length) l' (acc ++ [l])
  | .mk f b, deep, left, l', i, fu, R, acc, hg, hd, hf => by
    rw [Lay.good] at hg
    split at hg
    · cases hg
    rename_i hl0
    obtain ⟨fu1, rfl⟩ : ∃ fu1, fu = fu1 + 1 := ⟨fu - 1, by omega⟩
    rw [Lay.lines] at hd ⊢
    split at hg
    · rename_i h13
      split at hg
      · rename_i hdf
        rw [if_pos h13] at hd ⊢
        simp only [List.map_cons, List.map_append, List.map_nil, List.cons_append, List.append_assoc, List.nil_append] at hd
        rw [words_loop, words_endB] at hd
        obtain ⟨hi, hat, hd1⟩ := at_drop hd
        obtain ⟨fu2, hf2, e2⟩ := body_all b [] hg hd1 (show LL.length - (i + 1) + 1 ≤ fu1 by omega)
        have hd2 := over_drop hd1
        rw [List.length_map] at hd2
        obtain ⟨hi2, hat2, hd3⟩ := at_drop hd2
        obtain ⟨fu3, rfl⟩ : ∃ fu3, fu2 = fu3 + 1 := ⟨fu2 - 1, by omega⟩
        refine ⟨fu1, ?_, ?_⟩
        · simp only [List.length_cons, List.length_append, List.length_nil]; omega
        · rw [bodyP, hat]
          simp only
          rw [if_neg (show ¬ (nameB 13 = endB ∨ nameB 13 = lossB) by decide), if_neg hl0, if_neg (fun h => h rfl), if_neg (show ¬ deep = 4 by omega), e2, bodyP, hat2]
          simp only
          rw [if_pos (show True ∨ endB = lossB from .inl trivial)]
          simp only
          rw [hat2, if_pos rfl, List.nil_append, ← hdf.2]
          congr 1
          simp only [List.length_cons, List.length_append, List.length_nil]
          omega
      · cases hg
    · rename_i h13
      rw [if_neg h13] at hd ⊢
      split at hg
      · rename_i k hk
        rw [hk] at hd
        simp only [hk]
        split at hg
        · rename_i hok
          cases hg
          obtain ⟨ws, hw, ho, hm, -⟩ := line_read hk hok.1
          have hb : b = [] := List.isEmpty_iff.1 hok.2
          subst hb
          simp only [List.map_cons, List.map_nil, List.cons_append, List.nil_append] at hd
          rw [hw] at hd
          obtain ⟨hi, hat, hd1⟩ := at_drop hd
          obtain ⟨n1, n2, n3⟩ := name_other hm
          refine ⟨fu1, by simp only [List.length_cons, List.length_nil]; omega, ?_⟩
          rw [bodyP, hat]
          simp only
          rw [if_neg (show ¬ (nameB k = endB ∨ nameB k = lossB) from fun h => h.elim n1 n2), if_neg hl0, if_pos (head_not n3), ho]
          rfl
        · cases hg
      · cases hg
theorem body_all {LL : List (List Bs)} : ∀ (M : List Lay) {deep left l' i fu : Nat} {R : List (List Bs)} (acc : List Lay), goodS deep left M = some l' → LL.drop i = (linesS M).map wordsS ++ R → LL.length - i + 1 ≤ fu →
    ∃ fu', LL.length - (i + (linesS M).length) + 1 ≤ fu' ∧ bodyP LL fu deep i left acc = bodyP LL fu' deep (i + (linesS M).length) l' (acc ++ M)
  | [], deep, left, l', i, fu, R, acc, hg, hd, hf => by
    rw [goodS] at hg
    cases hg
    exact ⟨fu, by simpa [linesS] using hf, by simp [linesS]⟩
  | l :: M, deep, left, l', i, fu, R, acc, hg, hd, hf => by
    rw [goodS] at hg
    split at hg
    · cases hg
    rename_i l1 hl1
    rw [linesS, List.map_append, List.append_assoc] at hd
    obtain ⟨f1, h1, e1⟩ := body_one l acc hl1 hd hf
    have hd1 := over_drop hd
    rw [List.length_map] at hd1
    obtain ⟨f2, h2, e2⟩ := body_all M (acc ++ [l]) hg hd1 h1
    refine ⟨f2, ?_, ?_⟩
    · rw [linesS, List.length_append]; omega
    · rw [e1, e2, linesS, List.length_append, Nat.add_assoc]; simp
end
theorem dims_itoa : ∀ (ns : List Nat), (∀ n ∈ ns, 1 ≤ n ∧ n ≤ 4096) → dimsB (ns.map Lib.decDigits) = some ns
  | [], _ => rfl
  | n :: ns, h => by
    have hn := h n (by simp)
    simp only [List.map_cons, dimsB]
    rw [numB_itoa n (by omega), dims_itoa ns (fun m hm => h m (by simp [hm]))]
    simp only
    rw [if_pos hn]
/-- A definition's lines. -/
def linesD (d : DefL) : List Bs := (inputB ++ numsT d.input) :: (linesS d.layers ++ [lossB ++ 32 :: (if d.loss = 1 then xentB else squareB)])
theorem print_lines (d : DefL) : printS d = joinL (linesD d) := by
  unfold printS linesD
  rw [texts_lines]
  simp [joinL]
theorem good_lines : ∀ (M : List Lay) {deep left l' : Nat}, goodS deep left M = some l' → ∀ s ∈ linesS M, ∀ b ∈ s, b ≠ 10 := by
  have key : (∀ (l : Lay), ∀ {deep left l' : Nat}, l.good deep left = some l' → ∀ s ∈ l.lines, ∀ b ∈ s, b ≠ 10) ∧ True := by
    refine ⟨fun l => ?_, trivial⟩
    refine Lay.rec (motive_1 := fun l => ∀ {deep left l' : Nat}, l.good deep left = some l' → ∀ s ∈ l.lines, ∀ b ∈ s, b ≠ 10) (motive_2 := fun M => ∀ {deep left l' : Nat}, goodS deep left M = some l' → ∀ s ∈ linesS M, ∀ b ∈ s, b ≠ 10) ?_ ?_ ?_ l
    · intro f b ih deep left l' hg s hs
      rw [Lay.good] at hg
      split at hg
      · cases hg
      rw [Lay.lines] at hs
      split at hg
      · rename_i h13
        rw [if_pos h13] at hs
        split at hg
        · rcases List.mem_cons.1 hs with rfl | hs
          · exact fun b hb => (name_ok 13 b hb).2
          · rcases List.mem_append.1 hs with hs | hs
            · exact ih hg s hs
            · cases List.mem_singleton.1 hs
              decide
        · cases hg
      · rename_i h13
        rw [if_neg h13] at hs
        split at hg
        · rename_i k hk
          simp only [hk] at hs
          cases List.mem_singleton.1 hs
          split at hg
          · rename_i hok
            obtain ⟨ws, -, -, -, h⟩ := line_read hk hok.1
            exact h
          · cases hg
        · cases hg
    · intro deep left l' _ s hs
      rw [linesS] at hs
      cases hs
    · intro l M ih1 ih2 deep left l' hg s hs
      rw [goodS] at hg
      split at hg
      · cases hg
      rename_i l1 hl1
      rw [linesS] at hs
      rcases List.mem_append.1 hs with hs | hs
      · exact ih1 hl1 s hs
      · exact ih2 hg s hs
  intro M
  induction M with
  | nil => intro deep left l' _ s hs; rw [linesS] at hs; cases hs
  | cons l M ih =>
    intro deep left l' hg s hs
    rw [goodS] at hg
    split at hg
    · cases hg
    rename_i l1 hl1
    rw [linesS] at hs
    rcases List.mem_append.1 hs with hs | hs
    · exact key.1 l hl1 s hs
    · exact ih hg s hs
theorem nats_of {xs : List Int} (h : ∀ x ∈ xs, 1 ≤ x ∧ x ≤ 4096) : ∃ ns : List Nat, xs = ns.map (fun (n : Nat) => (n : Int)) ∧ ∀ n ∈ ns, 1 ≤ n ∧ n ≤ 4096 := by
  refine ⟨xs.map Int.toNat, ?_, ?_⟩
  · rw [List.map_map]
    refine (List.map_id xs).symm.trans (List.map_congr_left fun x hx => ?_)
    have := h x hx
    simp only [Function.comp, id]
    omega
  · intro n hn
    obtain ⟨x, hx, rfl⟩ := List.mem_map.1 hn
    have := h x hx
    omega
theorem nums_nat (ns : List Nat) : numsT (ns.map (fun (n : Nat) => (n : Int))) = (ns.map Lib.decDigits).flatMap (32 :: ·) := by
  unfold numsT numT
  rw [List.flatMap_map, List.flatMap_map]
  congr 1
/-- A good definition's text is read as it. -/
theorem print_back {d : DefL} (h : goodD d = true) (rest : Bs) : parseP ((linesD d).map wordsS) rest = if rest = [] then (some d, 0) else (none, (linesD d).length) := by
  unfold goodD at h
  simp only [Bool.and_eq_true, decide_eq_true_eq] at h
  obtain ⟨⟨⟨hin, hloss⟩, hall⟩, hg⟩ := h
  obtain ⟨l', hg⟩ := Option.isSome_iff_exists.1 hg
  obtain ⟨ns, hns, hn⟩ := nats_of (xs := d.input) (fun x hx => by have := List.all_eq_true.1 hall x hx; simpa using this)
  have hlen : ns.length = d.input.length := by rw [hns, List.length_map]
  have hw0 : wordsS (inputB ++ numsT d.input) = inputB :: ns.map Lib.decDigits := by
    rw [hns, nums_nat]
    exact words_pieces _ _ (by decide) (fun w hw => by obtain ⟨n, -, rfl⟩ := List.mem_map.1 hw; exact (dec_digs n).2.2.1) (by decide) (fun w hw b hb => by obtain ⟨n, -, rfl⟩ := List.mem_map.1 hw; exact (dig_ne ((dec_digs n).1 b hb)).1)
  have hw1 : lossK (wordsS (lossB ++ 32 :: (if d.loss = 1 then xentB else squareB))) = d.loss ∧ ∃ ws, wordsS (lossB ++ 32 :: (if d.loss = 1 then xentB else squareB)) = lossB :: ws := by
    rcases hloss with h | h <;> rw [h]
    · exact ⟨by decide, [xentB], by decide⟩
    · exact ⟨by decide, [squareB], by decide⟩
  obtain ⟨hw1, ws1, hw2⟩ := hw1
  unfold parseP
  have hL : (linesD d).map wordsS = (inputB :: ns.map Lib.decDigits) :: ((linesS d.layers).map wordsS ++ [wordsS (lossB ++ 32 :: (if d.loss = 1 then xentB else squareB))]) := by
    unfold linesD
    rw [List.map_cons, hw0, List.map_append, List.map_cons, List.map_nil]
  have hll : (linesD d).length = (linesS d.layers).length + 2 := by simp [linesD]
  obtain ⟨LL, hLL⟩ : ∃ LL, LL = (linesD d).map wordsS := ⟨_, rfl⟩
  have hl2 : LL.length = (linesS d.layers).length + 2 := by rw [hLL, List.length_map, hll]
  rw [← hLL] at hL ⊢
  have hd1 : LL.drop 1 = (linesS d.layers).map wordsS ++ [wordsS (lossB ++ 32 :: (if d.loss = 1 then xentB else squareB))] := by rw [hL]; rfl
  obtain ⟨fu, hfu, e⟩ := body_all d.layers [] hg hd1 (show LL.length - 1 + 1 ≤ LL.length + 1 by omega)
  have hd2 := over_drop hd1
  rw [List.length_map] at hd2
  obtain ⟨hi, hat, -⟩ := at_drop hd2
  have h0 : LL[0]? = some (inputB :: ns.map Lib.decDigits) := by rw [hL]; rfl
  obtain ⟨fu1, rfl⟩ : ∃ fu1, fu = fu1 + 1 := ⟨fu - 1, by omega⟩
  rw [h0]
  simp only
  rw [if_neg (by simp only [List.length_cons, List.length_map, List.head?_cons]; rintro (h | h | h); omega; omega; exact h rfl), List.tail_cons, dims_itoa ns hn]
  simp only
  rw [e, bodyP, hat, hw2]
  simp only
  rw [if_pos (show lossB = endB ∨ True from .inr trivial)]
  simp only
  rw [hat]
  simp only
  rw [hw1, if_neg (by omega), if_neg (by omega), hl2, hll]
  by_cases hr : rest = []
  · rw [if_neg (fun h => h hr), if_pos hr, ← hns]
    rfl
  · rw [if_pos hr, if_neg hr]
end Go.Proofs.YtkdfenkpfffcaaaDoor
