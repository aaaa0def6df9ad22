/- Layer 26, the plain law: a definition's text is read as it. Layer 26, the plain law: the layers' lines are read as the layers. DefJoins: the plain law. A good definition's text is its first line, its layers' texts, and its last line; its parts are good. No function of the program is named here. Layer 26, the plain law: a definition's text is read as it; one byte less or a blank more is none. Contracts of def.Print, def.Parse, EqDef as the laws of layer 26 use them; a string as bytes. -/
import Derived.Test.YtgokenbojppnhaaDoorDefText
import Derived.Test.YtgokenbojppnhaaDoorDefMay
import Derived.Test.YtgokenbojppnhaaDoorDefParse
import Derived.Test.YtgokenbojppnhaaDoorDefSlim
import Derived.Test.YtgokenbojppnhaaDoorDefOpen
import Derived.Lib.ConvBytes
namespace Go.Proofs.YtgokenbojppnhaaDoor
theorem dec_digs : ∀ (n : Nat), (∀ b ∈ Lib.decDigits n, digB b = true) ∧ valB (Lib.decDigits n) = n ∧ Lib.decDigits n ≠ [] ∧ (1 ≤ n → (Lib.decDigits n).head? ≠ some 48) ∧ (n < 10 → (Lib.decDigits n).length = 1) := by
  intro n
  induction n using Nat.strongRecOn with
  | _ n ih =>
    rw [Lib.decDigits]
    by_cases h : n < 10
    · rw [dif_pos h]
      have e : (UInt8.ofNat (48 + n)).toNat = 48 + n := by simp; omega
      refine ⟨fun b hb => ?_, ?_, by simp, fun h1 => ?_, fun _ => rfl⟩
      · cases List.mem_singleton.1 hb; simp only [digB]; rw [Bool.and_eq_true, decide_eq_true_eq, decide_eq_true_eq, e]; omega
      · simp only [valB, List.foldl_cons, List.foldl_nil]
        rw [e]; omega
      · simp only [List.head?_cons, ne_eq, Option.some.injEq]
        intro h2
        have := congrArg UInt8.toNat h2
        rw [e] at this
        have : (48 : UInt8).toNat = 48 := rfl
        omega
    · rw [dif_neg h]
      obtain ⟨h1, h2, h3, h4, h5⟩ := ih (n / 10) (by omega)
      have e : (UInt8.ofNat (48 + n % 10)).toNat = 48 + n % 10 := by simp; omega
      refine ⟨fun b hb => ?_, ?_, by simp, fun _ => ?_, fun h' => absurd h' h⟩
      · rcases List.mem_append.1 hb with hb | hb
        · exact h1 b hb
        · cases List.mem_singleton.1 hb; simp only [digB]; rw [Bool.and_eq_true, decide_eq_true_eq, decide_eq_true_eq, e]; omega
      · rw [valB_snoc, h2, e]; omega
      · rw [head_app h3]; exact h4 (by omega)
theorem dec_short : ∀ (k n : Nat), n < 10 ^ (k + 1) → (Lib.decDigits n).length ≤ k + 1
  | 0, n, h => by rw [Lib.decDigits, dif_pos (by omega)]; simp
  | k + 1, n, h => by
    rw [Lib.decDigits]
    split
    · simp
    · have := dec_short k (n / 10) (by rw [Nat.pow_succ] at h; omega)
      simp
      omega
theorem numB_itoa (n : Nat) (h : n ≤ 9999) : numB (Lib.decDigits n) = some n := by
  obtain ⟨h1, h2, h3, h4, h5⟩ := dec_digs n
  unfold numB
  rw [if_neg]
  · rw [if_pos (List.all_eq_true.2 h1), h2]
  · rintro (a | a | ⟨a, b⟩)
    · exact h3 a
    · have := dec_short 3 n (by omega); omega
    · rcases Nat.eq_zero_or_pos n with h0 | h0
      · have := h5 (by omega); omega
      · exact h4 h0 a
theorem allB_itoa : ∀ (ns : List Nat), (∀ n ∈ ns, n ≤ 9999) → allB (ns.map Lib.decDigits) = some ns
  | [], _ => rfl
  | n :: ns, h => by
    simp only [List.map_cons, allB]
    rw [numB_itoa n (h n (by simp)), allB_itoa ns (fun m hm => h m (by simp [hm]))]
theorem dig_ne {b : UInt8} (h : digB b = true) : b ≠ 32 ∧ b ≠ 10 := by
  have := dig_of h
  constructor
  · rintro rfl; have : (32 : UInt8).toNat = 32 := rfl; omega
  · rintro rfl; have : (10 : UInt8).toNat = 10 := rfl; omega
theorem cut_pieces {c : UInt8} : ∀ (x : Bs) (ws : List Bs), (∀ b ∈ x, b ≠ c) → (∀ w ∈ ws, ∀ b ∈ w, b ≠ c) → cutAt c (x ++ ws.flatMap (c :: ·)) = x :: ws
  | [], [], _, _ => rfl
  | [], w :: ws, _, h => by
    have ih := cut_pieces w ws (h w (by simp)) (fun v hv => h v (by simp [hv]))
    simp only [List.nil_append, List.flatMap_cons, List.cons_append]
    rw [cutAt_cons, if_pos rfl, ih]
  | y :: x, ws, hx, h => by
    have ih := cut_pieces x ws (fun b hb => hx b (by simp [hb])) h
    rw [List.cons_append, cutAt_cons, if_neg (hx y (by simp)), ih]
    rfl
theorem words_pieces (x : Bs) (ws : List Bs) (h0 : x ≠ []) (h1 : ∀ w ∈ ws, w ≠ []) (hx : ∀ b ∈ x, b ≠ 32) (hw : ∀ w ∈ ws, ∀ b ∈ w, b ≠ 32) : wordsS (x ++ ws.flatMap (32 :: ·)) = x :: ws := by
  unfold wordsS
  rw [cut_pieces x ws hx hw, if_neg]
  intro h
  rcases List.mem_cons.1 h with h | h
  · exact h0 h.symm
  · exact h1 _ h rfl
theorem cut_lines_of : ∀ (ls : List Bs), (∀ l ∈ ls, ∀ b ∈ l, b ≠ 10) → cutAt 10 (joinL ls) = ls ++ [[]]
  | [], _ => rfl
  | l :: ls, h => by
    have ih := cut_lines_of ls (fun m hm => h m (by simp [hm]))
    have e : joinL (l :: ls) = l ++ 10 :: joinL ls := by simp [joinL]
    rw [e]
    have key : ∀ (x r : Bs), (∀ b ∈ x, b ≠ 10) → cutAt 10 (x ++ 10 :: r) = x :: cutAt 10 r := by
      intro x r hx
      induction x with
      | nil => rw [List.nil_append, cutAt_cons, if_pos rfl]
      | cons y x ih2 => rw [List.cons_append, cutAt_cons, if_neg (hx y (by simp)), ih2 (fun b hb => hx b (by simp [hb]))]; rfl
    rw [key l _ (h l (by simp)), ih]
    rfl
theorem name_ok (k : Nat) : ∀ b ∈ nameB k, b ≠ 32 ∧ b ≠ 10 := by
  unfold nameB
  split <;> decide
theorem name_some {k : Nat} (h : k ∈ kindsT) : nameB k ≠ [] := by
  simp only [kindsT, List.mem_cons, List.not_mem_nil, or_false] at h
  rcases h with rfl | rfl | rfl | rfl | rfl | rfl | rfl | rfl | rfl | rfl | rfl | rfl <;> decide
/-- A layer's line without its end. -/
def lineL (k : Nat) (f : LayF) : Bs := nameB k ++ numsT ((placesK k).map f.at)
mutual
def Lay.lines : Lay → List Bs
  | .mk f b => if f.kind = 13 then nameB 13 :: (linesS b ++ [endB]) else match kindT f.kind with
    | some k => [lineL k f]
    | none => []
def linesS : List Lay → List Bs
  | [] => []
  | l :: ls => l.lines ++ linesS ls
end
mutual
theorem text_lines : ∀ (l : Lay), l.text = joinL l.lines
  | .mk f b => by
    rw [Lay.text, Lay.lines]
    split
    · rw [texts_lines b]; simp [joinL]
    · cases kindT f.kind with
      | none => rfl
      | some k => simp [joinL, lineT, lineL]
theorem texts_lines : ∀ (ls : List Lay), textS ls = joinL (linesS ls)
  | [] => rfl
  | l :: ls => by rw [textS, linesS, joinL_app, text_lines l, texts_lines ls]
end
theorem fits_le {k : Nat} {ns : List Nat} (h : fitsK k ns = true) : ns.length = (placesK k).length ∧ ∀ n ∈ ns, n ≤ 9999 := by
  unfold fitsK at h
  simp only [Bool.and_eq_true, decide_eq_true_eq] at h
  refine ⟨h.1, fun n hn => ?_⟩
  obtain ⟨i, hi, rfl⟩ := List.getElem_of_mem hn
  have := (fitsFrom_iff.1 h.2 i hi).2
  unfold highK at this
  split at this <;> omega
/-- A good layer's line is read as the layer. -/
theorem line_read {k : Nat} {f : LayF} (hk : kindT f.kind = some k) (ho : okF k f = true) : ∃ ws, wordsS (lineL k f) = nameB k :: ws ∧ oneS (nameB k :: ws) = some f ∧ k ∈ kindsT ∧ (∀ b ∈ lineL k f, b ≠ 10) := by
  have hm : k ∈ kindsT := List.mem_of_find?_eq_some hk
  unfold okF at ho
  simp only [Bool.and_eq_true, decide_eq_true_eq] at ho
  obtain ⟨hf, he⟩ := ho
  obtain ⟨hl, hn⟩ := fits_le hf
  have hat : (placesK k).map f.at = (nsOf k f).map (fun (n : Nat) => (n : Int)) := by
    conv => lhs; rw [he]
    exact set_nums (kindT_of hm).2.1 hl
  have hnum : numsT ((placesK k).map f.at) = ((nsOf k f).map Lib.decDigits).flatMap (32 :: ·) := by
    rw [hat]
    unfold numsT numT
    rw [List.flatMap_map, List.flatMap_map]
    congr 1
  have hd : ∀ w ∈ (nsOf k f).map Lib.decDigits, ∀ b ∈ w, b ≠ 32 ∧ b ≠ 10 := fun w hw b hb => by
    obtain ⟨n, -, rfl⟩ := List.mem_map.1 hw
    exact dig_ne ((dec_digs n).1 b hb)
  refine ⟨(nsOf k f).map Lib.decDigits, ?_, ?_, hm, ?_⟩
  · unfold lineL
    rw [hnum]
    exact words_pieces _ _ (name_some hm) (fun w hw => by obtain ⟨n, -, rfl⟩ := List.mem_map.1 hw; exact (dec_digs n).2.2.1) (fun b hb => (name_ok k b hb).1) (fun w hw b hb => (hd w hw b hb).1)
  · rw [oneS_all]
    have hkb : kindB (nameB k) = some k := by
      obtain ⟨i, hi, h⟩ := List.getElem_of_mem hm
      have := kindB_at (i := i) hi
      rw [List.getD_eq_getElem?_getD, List.getElem?_eq_getElem hi, Option.getD_some, h] at this
      exact this
    rw [hkb]
    simp only
    rw [allB_itoa _ hn]
    simp only
    rw [if_pos hf, ← he]
  · intro b hb
    unfold lineL at hb
    rw [hnum] at hb
    rcases List.mem_append.1 hb with hb | hb
    · exact (name_ok k b hb).2
    · obtain ⟨w, hw, hb⟩ := List.mem_flatMap.1 hb
      rcases List.mem_cons.1 hb with rfl | hb
      · decide
      · exact (hd w hw b hb).2
end Go.Proofs.YtgokenbojppnhaaDoor
namespace Go.Proofs.YtgokenbojppnhaaDoor
theorem name_other {k : Nat} (h : k ∈ kindsT) : nameB k ≠ endB ∧ nameB k ≠ lossB ∧ nameB k ≠ nameB 13 := by
  simp only [kindsT, List.mem_cons, List.not_mem_nil, or_false] at h
  rcases h with rfl | rfl | rfl | rfl | rfl | rfl | rfl | rfl | rfl | rfl | rfl | rfl <;> decide
theorem words_loop : wordsS (nameB 13) = [nameB 13] := by decide
theorem words_endB : wordsS endB = [endB] := by decide
theorem at_drop {α : Type} {L R : List α} {x : α} {i : Nat} (h : L.drop i = x :: R) : i < L.length ∧ L[i]? = some x ∧ L.drop (i + 1) = R := by
  have hi : i < L.length := by
    apply Classical.byContradiction
    intro h'
    rw [List.drop_eq_nil_of_le (by omega)] at h
    cases h
  rw [List.drop_eq_getElem_cons hi] at h
  cases h
  exact ⟨hi, List.getElem?_eq_getElem hi, rfl⟩
theorem over_drop {α : Type} : ∀ {A L R : List α} {i : Nat}, L.drop i = A ++ R → L.drop (i + A.length) = R
  | [], _, _, _, h => h
  | x :: A, L, R, i, h => by
    have := over_drop (A := A) (at_drop (x := x) h).2.2
    rw [← this]
    simp only [List.length_cons]
    congr 1
    omega
theorem head_not {k : Nat} {ws : List Bs} (h : nameB k ≠ nameB 13) : nameB k :: ws ≠ [nameB 13] := fun e => h (List.cons.inj e).1
mutual
theorem body_one {LL : List (List Bs)} : ∀ (l : Lay) {deep left l' i fu : Nat} {R : List (List Bs)} (acc : List Lay), l.good deep left = some l' → LL.drop i = l.lines.map wordsS ++ R → LL.length - i + 1 ≤ fu →
    ∃ fu', LL.length - (i + l.lines.length) + 1 ≤ fu' ∧ bodyP LL fu deep i left acc = bodyP LL fu' deep (i + l.lines.length) l' (acc ++ [l])
  | .mk f b, deep, left, l', i, fu, R, acc, hg, hd, hf => by
    rw [Lay.good] at hg
    split at hg
    · cases hg
    rename_i hl0
    obtain ⟨fu1, rfl⟩ : ∃ fu1, fu = fu1 + 1 := ⟨fu - 1, by omega⟩
    rw [Lay.lines] at hd ⊢
    split at hg
    · rename_i h13
      split at hg
      · rename_i hdf
        rw [if_pos h13] at hd ⊢
        simp only [List.map_cons, List.map_append, List.map_nil, List.cons_append, List.append_assoc, List.nil_append] at hd
        rw [words_loop, words_endB] at hd
        obtain ⟨hi, hat, hd1⟩ := at_drop hd
        obtain ⟨fu2, hf2, e2⟩ := body_all b [] hg hd1 (show LL.length - (i + 1) + 1 ≤ fu1 by omega)
        have hd2 := over_drop hd1
        rw [List.length_map] at hd2
        obtain ⟨hi2, hat2, hd3⟩ := at_drop hd2
        obtain ⟨fu3, rfl⟩ : ∃ fu3, fu2 = fu3 + 1 := ⟨fu2 - 1, by omega⟩
        refine ⟨fu1, ?_, ?_⟩
        · simp only [List.length_cons, List.length_append, List.length_nil]; omega
        · rw [bodyP, hat]
          simp only
          rw [if_neg (show ¬ (nameB 13 = endB ∨ nameB 13 = lossB) by decide), if_neg hl0, if_neg (fun h => h rfl), if_neg (show ¬ deep = 4 by omega), e2, bodyP, hat2]
          simp only
          rw [if_pos (show True ∨ endB = lossB from .inl trivial)]
          simp only
          rw [hat2, if_pos rfl, List.nil_append, ← hdf.2]
          congr 1
          simp only [List.length_cons, List.length_append, List.length_nil]
          omega
      · cases hg
    · rename_i h13
      rw [if_neg h13] at hd ⊢
      split at hg
      · rename_i k hk
        rw [hk] at hd
        simp only [hk]
        split at hg
        · rename_i hok
          cases hg
          obtain ⟨ws, hw, ho, hm, -⟩ := line_read hk hok.1
          have hb : b = [] := List.isEmpty_iff.1 hok.2
          subst hb
          simp only [List.map_cons, List.map_nil, List.cons_append, List.nil_append] at hd
          rw [hw] at hd
          obtain ⟨hi, hat, hd1⟩ := at_drop hd
          obtain ⟨n1, n2, n3⟩ := name_other hm
          refine ⟨fu1, by simp only [List.length_cons, List.length_nil]; omega, ?_⟩
          rw [bodyP, hat]
          simp only
          rw [if_neg (show ¬ (nameB k = endB ∨ nameB k = lossB) from fun h => h.elim n1 n2), if_neg hl0, if_pos (head_not n3), ho]
          rfl
        · cases hg
      · cases hg
theorem body_all {LL : List (List Bs)} : ∀ (M : List Lay) {deep left l' i fu : Nat} {R : List (List Bs)} (acc : List Lay), goodS deep left M = some l' → LL.drop i = (linesS M).map wordsS ++ R → LL.length - i + 1 ≤ fu →
    ∃ fu', LL.length - (i + (linesS M).length) + 1 ≤ fu' ∧ bodyP LL fu deep i left acc = bodyP LL fu' deep (i + (linesS M).length) l' (acc ++ M)
  | [], deep, left, l', i, fu, R, acc, hg, hd, hf => by
    rw [goodS] at hg
    cases hg
    exact ⟨fu, by simpa [linesS] using hf, by simp [linesS]⟩
  | l :: M, deep, left, l', i, fu, R, acc, hg, hd, hf => by
    rw [goodS] at hg
    split at hg
    · cases hg
    rename_i l1 hl1
    rw [linesS, List.map_append, List.append_assoc] at hd
    obtain ⟨f1, h1, e1⟩ := body_one l acc hl1 hd hf
    have hd1 := over_drop hd
    rw [List.length_map] at hd1
    obtain ⟨f2, h2, e2⟩ := body_all M (acc ++ [l]) hg hd1 h1
    refine ⟨f2, ?_, ?_⟩
    · rw [linesS, List.length_append]; omega
    · rw [e1, e2, linesS, List.length_append, Nat.add_assoc]; simp
end
theorem dims_itoa : ∀ (ns : List Nat), (∀ n ∈ ns, 1 ≤ n ∧ n ≤ 4096) → dimsB (ns.map Lib.decDigits) = some ns
  | [], _ => rfl
  | n :: ns, h => by
    have hn := h n (by simp)
    simp only [List.map_cons, dimsB]
    rw [numB_itoa n (by omega), dims_itoa ns (fun m hm => h m (by simp [hm]))]
    simp only
    rw [if_pos hn]
/-- A definition's lines. -/
def linesD (d : DefL) : List Bs := (inputB ++ numsT d.input) :: (linesS d.layers ++ [lossB ++ 32 :: (if d.loss = 1 then xentB else squareB)])
theorem print_lines (d : DefL) : printS d = joinL (linesD d) := by
  unfold printS linesD
  rw [texts_lines]
  simp [joinL]
theorem good_lines : ∀ (M : List Lay) {deep left l' : Nat}, goodS deep left M = some l' → ∀ s ∈ linesS M, ∀ b ∈ s, b ≠ 10 := by
  have key : (∀ (l : Lay), ∀ {deep left l' : Nat}, l.good deep left = some l' → ∀ s ∈ l.lines, ∀ b ∈ s, b ≠ 10) ∧ True := by
    refine ⟨fun l => ?_, trivial⟩
    refine Lay.rec (motive_1 := fun l => ∀ {deep left l' : Nat}, l.good deep left = some l' → ∀ s ∈ l.lines, ∀ b ∈ s, b ≠ 10) (motive_2 := fun M => ∀ {deep left l' : Nat}, goodS deep left M = some l' → ∀ s ∈ linesS M, ∀ b ∈ s, b ≠ 10) ?_ ?_ ?_ l
    · intro f b ih deep left l' hg s hs
      rw [Lay.good] at hg
      split at hg
      · cases hg
      rw [Lay.lines] at hs
      split at hg
      · rename_i h13
        rw [if_pos h13] at hs
        split at hg
        · rcases List.mem_cons.1 hs with rfl | hs
          · exact fun b hb => (name_ok 13 b hb).2
          · rcases List.mem_append.1 hs with hs | hs
            · exact ih hg s hs
            · cases List.mem_singleton.1 hs
              decide
        · cases hg
      · rename_i h13
        rw [if_neg h13] at hs
        split at hg
        · rename_i k hk
          simp only [hk] at hs
          cases List.mem_singleton.1 hs
          split at hg
          · rename_i hok
            obtain ⟨ws, -, -, -, h⟩ := line_read hk hok.1
            exact h
          · cases hg
        · cases hg
    · intro deep left l' _ s hs
      rw [linesS] at hs
      cases hs
    · intro l M ih1 ih2 deep left l' hg s hs
      rw [goodS] at hg
      split at hg
      · cases hg
      rename_i l1 hl1
      rw [linesS] at hs
      rcases List.mem_append.1 hs with hs | hs
      · exact ih1 hl1 s hs
      · exact ih2 hg s hs
  intro M
  induction M with
  | nil => intro deep left l' _ s hs; rw [linesS] at hs; cases hs
  | cons l M ih =>
    intro deep left l' hg s hs
    rw [goodS] at hg
    split at hg
    · cases hg
    rename_i l1 hl1
    rw [linesS] at hs
    rcases List.mem_append.1 hs with hs | hs
    · exact key.1 l hl1 s hs
    · exact ih hg s hs
theorem nats_of {xs : List Int} (h : ∀ x ∈ xs, 1 ≤ x ∧ x ≤ 4096) : ∃ ns : List Nat, xs = ns.map (fun (n : Nat) => (n : Int)) ∧ ∀ n ∈ ns, 1 ≤ n ∧ n ≤ 4096 := by
  refine ⟨xs.map Int.toNat, ?_, ?_⟩
  · rw [List.map_map]
    refine (List.map_id xs).symm.trans (List.map_congr_left fun x hx => ?_)
    have := h x hx
    simp only [Function.comp, id]
    omega
  · intro n hn
    obtain ⟨x, hx, rfl⟩ := List.mem_map.1 hn
    have := h x hx
    omega
theorem nums_nat (ns : List Nat) : numsT (ns.map (fun (n : Nat) => (n : Int))) = (ns.map Lib.decDigits).flatMap (32 :: ·) := by
  unfold numsT numT
  rw [List.flatMap_map, List.flatMap_map]
  congr 1
/-- A good definition's text is read as it. -/
theorem print_back {d : DefL} (h : goodD d = true) (rest : Bs) : parseP ((linesD d).map wordsS) rest = if rest = [] then (some d, 0) else (none, (linesD d).length) := by
  unfold goodD at h
  simp only [Bool.and_eq_true, decide_eq_true_eq] at h
  obtain ⟨⟨⟨hin, hloss⟩, hall⟩, hg⟩ := h
  obtain ⟨l', hg⟩ := Option.isSome_iff_exists.1 hg
  obtain ⟨ns, hns, hn⟩ := nats_of (xs := d.input) (fun x hx => by have := List.all_eq_true.1 hall x hx; simpa using this)
  have hlen : ns.length = d.input.length := by rw [hns, List.length_map]
  have hw0 : wordsS (inputB ++ numsT d.input) = inputB :: ns.map Lib.decDigits := by
    rw [hns, nums_nat]
    exact words_pieces _ _ (by decide) (fun w hw => by obtain ⟨n, -, rfl⟩ := List.mem_map.1 hw; exact (dec_digs n).2.2.1) (by decide) (fun w hw b hb => by obtain ⟨n, -, rfl⟩ := List.mem_map.1 hw; exact (dig_ne ((dec_digs n).1 b hb)).1)
  have hw1 : lossK (wordsS (lossB ++ 32 :: (if d.loss = 1 then xentB else squareB))) = d.loss ∧ ∃ ws, wordsS (lossB ++ 32 :: (if d.loss = 1 then xentB else squareB)) = lossB :: ws := by
    rcases hloss with h | h <;> rw [h]
    · exact ⟨by decide, [xentB], by decide⟩
    · exact ⟨by decide, [squareB], by decide⟩
  obtain ⟨hw1, ws1, hw2⟩ := hw1
  unfold parseP
  have hL : (linesD d).map wordsS = (inputB :: ns.map Lib.decDigits) :: ((linesS d.layers).map wordsS ++ [wordsS (lossB ++ 32 :: (if d.loss = 1 then xentB else squareB))]) := by
    unfold linesD
    rw [List.map_cons, hw0, List.map_append, List.map_cons, List.map_nil]
  have hll : (linesD d).length = (linesS d.layers).length + 2 := by simp [linesD]
  obtain ⟨LL, hLL⟩ : ∃ LL, LL = (linesD d).map wordsS := ⟨_, rfl⟩
  have hl2 : LL.length = (linesS d.layers).length + 2 := by rw [hLL, List.length_map, hll]
  rw [← hLL] at hL ⊢
  have hd1 : LL.drop 1 = (linesS d.layers).map wordsS ++ [wordsS (lossB ++ 32 :: (if d.loss = 1 then xentB else squareB))] := by rw [hL]; rfl
  obtain ⟨fu, hfu, e⟩ := body_all d.layers [] hg hd1 (show LL.length - 1 + 1 ≤ LL.length + 1 by omega)
  have hd2 := over_drop hd1
  rw [List.length_map] at hd2
  obtain ⟨hi, hat, -⟩ := at_drop hd2
  have h0 : LL[0]? = some (inputB :: ns.map Lib.decDigits) := by rw [hL]; rfl
  obtain ⟨fu1, rfl⟩ : ∃ fu1, fu = fu1 + 1 := ⟨fu - 1, by omega⟩
  rw [h0]
  simp only
  rw [if_neg (by simp only [List.length_cons, List.length_map, List.head?_cons]; rintro (h | h | h); omega; omega; exact h rfl), List.tail_cons, dims_itoa ns hn]
  simp only
  rw [e, bodyP, hat, hw2]
  simp only
  rw [if_pos (show lossB = endB ∨ True from .inr trivial)]
  simp only
  rw [hat]
  simp only
  rw [hw1, if_neg (by omega), if_neg (by omega), hl2, hll]
  by_cases hr : rest = []
  · rw [if_neg (fun h => h hr), if_pos hr, ← hns]
    rfl
  · rw [if_pos hr, if_neg hr]
end Go.Proofs.YtgokenbojppnhaaDoor
namespace Go.Proofs.YtgokenbojppnhaaDoor
/-- The first line; the last line. -/
def headT (d : DefL) : Bs := inputB ++ numsT d.input ++ [10]
def xentL : Bs := lossB ++ [32] ++ xentB ++ [10]
def squareL : Bs := lossB ++ [32] ++ squareB ++ [10]
def DefL.bare (d : DefL) : DefL := ⟨d.input, [], 1⟩
def DefL.only (d : DefL) (l : Lay) : DefL := ⟨d.input, [l], 1⟩
theorem print_bare (d : DefL) : printS d.bare = headT d ++ xentL := by
  simp [printS, DefL.bare, headT, xentL, textS, List.append_assoc]
theorem print_only (d : DefL) (l : Lay) : printS (d.only l) = headT d ++ l.text ++ xentL := by
  simp [printS, DefL.only, headT, xentL, textS, List.append_assoc]
theorem print_all (d : DefL) : printS d = headT d ++ textS d.layers ++ (if d.loss = 1 then xentL else squareL) := by
  by_cases h1 : d.loss = 1
  · simp [printS, headT, xentL, h1, List.append_assoc]
  · simp [printS, headT, squareL, h1, List.append_assoc]
theorem good_bare {d : DefL} (h : goodD d = true) : goodD d.bare = true := by
  unfold goodD at h ⊢
  simp only [Bool.and_eq_true, decide_eq_true_eq] at h ⊢
  exact ⟨⟨⟨h.1.1.1, .inl rfl⟩, h.1.2⟩, by simp [DefL.bare, goodS]⟩
theorem ok_at : ∀ {L : List Lay} {k : Nat} (h : k < L.length), okA 0 L = true → L[k].okL 0 = true ∧ L[k].count ≤ countS L
  | l :: ls, 0, _, h => by
    rw [okA, Bool.and_eq_true] at h
    rw [countS]
    exact ⟨h.1, by simp only [List.getElem_cons_zero]; omega⟩
  | l :: ls, k + 1, hk, h => by
    rw [okA, Bool.and_eq_true] at h
    have := ok_at (k := k) (by simpa using hk) h.2
    rw [countS]
    simp only [List.getElem_cons_succ]
    exact ⟨this.1, by omega⟩
theorem good_only {d : DefL} (h : goodD d = true) {k : Nat} (hk : k < d.layers.length) : goodD (d.only d.layers[k]) = true := by
  unfold goodD at h ⊢
  simp only [Bool.and_eq_true, decide_eq_true_eq] at h ⊢
  refine ⟨⟨⟨h.1.1.1, .inl rfl⟩, h.1.2⟩, ?_⟩
  have h2 := h.2
  rw [goods_count] at h2 ⊢
  split at h2
  · rename_i h3
    have h4 := ok_at hk h3.1
    rw [if_pos]
    · rfl
    · refine ⟨?_, ?_⟩
      · show (d.layers[k].okL 0 && okA 0 []) = true
        rw [h4.1, okA]; rfl
      · show d.layers[k].count + countS [] ≤ 64
        rw [countS]; omega
  · cases h2
theorem textS_take {L : List Lay} {k : Nat} (h : k < L.length) : textS (L.take (k + 1)) = textS (L.take k) ++ L[k].text := by
  rw [List.take_succ_eq_append_getElem h, textS_append]
  simp [textS]
end Go.Proofs.YtgokenbojppnhaaDoor
namespace Go.Proofs.YtgokenbojppnhaaDoor
theorem print_ends (d : DefL) : ∃ q, printS d = q ++ [10] := ⟨_, rfl⟩
theorem print_tail (d : DefL) : ∃ q c, printS d = q ++ [c] ++ [10] ∧ c ≠ 10 := by
  unfold printS
  by_cases h : d.loss = 1
  · rw [if_pos h]
    refine ⟨inputB ++ numsT d.input ++ [10] ++ textS d.layers ++ lossB ++ [32] ++ xentB.dropLast, xentB.getLastD 0, ?_, by decide⟩
    simp only [List.append_assoc]
    rfl
  · rw [if_neg h]
    refine ⟨inputB ++ numsT d.input ++ [10] ++ textS d.layers ++ lossB ++ [32] ++ squareB.dropLast, squareB.getLastD 0, ?_, by decide⟩
    simp only [List.append_assoc]
    rfl
theorem parse_ends {b : Bs} {c : UInt8} (h : c ≠ 10) : (parseS (b ++ [c])).1 = none := by
  unfold parseS
  split
  · rfl
  · cases hp : parseP ((cutAt 10 (b ++ [c])).dropLast.map wordsS) (restB (b ++ [c])) with
    | mk r n =>
      cases r with
      | none => rfl
      | some d =>
        obtain ⟨-, h2⟩ := parse_text hp
        obtain ⟨q, hq⟩ := print_ends d
        rw [hq] at h2
        have := (List.append_inj' h2 rfl).2
        cases this
        exact absurd rfl h
/-- A good definition's text is read as it; of one byte less, or of a blank more, none is read. -/
theorem parse_back {d : DefL} (h : goodD d = true) (hl : (printS d).length ≤ 8192) : parseS (printS d) = (some d, 0) ∧ (parseS ((printS d).take ((printS d).length - 1))).1 = none ∧ (parseS (printS d ++ [32])).1 = none := by
  refine ⟨?_, ?_, parse_ends (by decide)⟩
  · have hno : ∀ s ∈ linesD d, ∀ b ∈ s, b ≠ 10 := by
      have hg := h
      unfold goodD at hg
      simp only [Bool.and_eq_true, decide_eq_true_eq] at hg
      obtain ⟨⟨⟨hin, hloss⟩, hall⟩, hg⟩ := hg
      obtain ⟨l', hg⟩ := Option.isSome_iff_exists.1 hg
      obtain ⟨ns, hns, hn⟩ := nats_of (xs := d.input) (fun x hx => by have := List.all_eq_true.1 hall x hx; simpa using this)
      intro s hs
      unfold linesD at hs
      rcases List.mem_cons.1 hs with rfl | hs
      · intro b hb
        rcases List.mem_append.1 hb with hb | hb
        · exact (show ∀ b ∈ inputB, b ≠ 10 by decide) b hb
        · rw [hns, nums_nat] at hb
          obtain ⟨w, hw, hb⟩ := List.mem_flatMap.1 hb
          rcases List.mem_cons.1 hb with rfl | hb
          · decide
          · obtain ⟨n, -, rfl⟩ := List.mem_map.1 hw
            exact (dig_ne ((dec_digs n).1 b hb)).2
      · rcases List.mem_append.1 hs with hs | hs
        · exact good_lines d.layers hg s hs
        · cases List.mem_singleton.1 hs
          split <;> decide
    have hc : cutAt 10 (printS d) = linesD d ++ [[]] := by rw [print_lines]; exact cut_lines_of _ hno
    unfold parseS
    rw [if_neg (by omega)]
    unfold restB
    rw [hc, List.dropLast_concat]
    have : (linesD d ++ [([] : Bs)]).getLastD [] = [] := by simp
    rw [this, print_back h, if_pos rfl]
  · obtain ⟨q, c, e, hne⟩ := print_tail d
    have : (printS d).take ((printS d).length - 1) = q ++ [c] := by
      rw [e, List.length_append, show [(10 : UInt8)].length = 1 from rfl, Nat.add_sub_cancel]
      exact List.take_left
    rw [this]
    exact parse_ends hne
end Go.Proofs.YtgokenbojppnhaaDoor
namespace Go.Proofs.YtgokenbojppnhaaDoor
open Go.RowKit
theorem bytes_ext (u : World) (S : ByteArray) : Ext u (Lib.bytesWorld u 5 S) := by
  refine ⟨?_, ?_, ?_, ?_, ?_⟩
  · simp [Lib.bytesWorld, World.freeze, World.alloc, World.drew, -World.alloc_eq, -World.drew_eq]
  · simp [Lib.bytesWorld, World.freeze, World.alloc, World.drew, -World.alloc_eq, -World.drew_eq]
  · simp [Lib.bytesWorld, World.freeze, World.alloc, World.drew, -World.alloc_eq, -World.drew_eq]
  · rw [Lib.bytesWorld_size]; omega
  · exact fun k hk => Lib.bytesWorld_at_old u _ S k hk
theorem bytesW_row (u : World) {l : Bs} (hl : l.length ≤ 100000) {S : ByteArray} (hS : ba l = S) : RowV (Lib.bytesWorld u 5 S) (.slice (some ⟨u.heap.size, 0, none⟩) l.length (grownCap u l.length 0 5)) (bytesV l) := by
  have hsz : S.size = l.length := by rw [← hS, ba_size]
  have hb := bytesV_len l
  refine ⟨_, _, by rw [hb], by rw [hb]; exact grownCap_ge _ _ _ _, grownCap_le_maxLen _ _ _ _ (by unfold maxLen; omega), fun _ => ⟨_, 0, rfl, fun i hi => ?_⟩⟩
  rw [hb] at hi
  rw [Nat.zero_add, Lib.bytesWorld_cell _ _ _ _ (by omega), ← hS]
  simp [bytesV, ba, hi, List.getD]
theorem str_conv (u : World) {l : Bs} {S : ByteArray} (hS : ba l = S) :
    (convert 9 106 (.string S)).run Tryd.prog u = .ok (.slice (some ⟨u.heap.size, 0, none⟩) l.length (grownCap u l.length 0 5)) (Lib.bytesWorld u 5 S) := by
  have hsz : S.size = l.length := by rw [← hS, ba_size]
  have h := Lib.run_convert_string_bytes (P := Tryd.prog) u 9 106 5 S Tryd.underlying9 Tryd.underlying106 Tryd.underlying5
  rw [hsz] at h
  exact h
theorem LaysAt.ups {A : Nat → Prop} {w : World} {n : Nat} {v : Value} {L : List Lay} (h : LaysAt A w n v L) : ∀ m, LaysAt A w (n + m) v L
  | 0 => h
  | m + 1 => (LaysAt.ups h m).up
theorem DefAt.mono {A B : Nat → Prop} {n : Nat} {w : World} {v : Value} {d : DefL} (h : DefAt A n w v d) (hA : ∀ b, A b → B b) (hB : ∀ b, B b → b < w.heap.size) : DefAt B n w v d := by
  obtain ⟨a1, c1, a2, c2, e, h1, h2⟩ := h.is
  exact ⟨⟨a1, c1, a2, c2, e, h1, h2.mono hA⟩, hB⟩
set_option maxHeartbeats 2000000 in
theorem eqDef_at {A B : Nat → Prop} {n m : Nat} {w : World} {u v : Value} {d : DefL} (h1 : DefAt A n w u d) (h2 : DefAt B m w v d) :
    Calls Tryd.prog 14 #[u, v] w fun e w' => e = .returned (.bool true) ∧ Ext w w' := by
  obtain ⟨a1, c1, a3, c3, rfl, o1, m1⟩ := h1.is
  obtain ⟨a2, c2, a4, c4, rfl, o2, m2⟩ := h2.is
  have EN := Lib.hid (fun w' (x : Ext w w') => eqNumbers_any (o1.ext x) (o2.ext x))
  rw [decide_eq_true rfl] at EN
  have EL := Lib.hid (fun w' (x : Ext w w') => eqLayers_any (n + m) _ _ _ _ _ _ ((m1.ext x).ups m) (by have := (m2.ext x).ups n; rwa [Nat.add_comm] at this))
  clear h1 h2 o1 o2 m1 m2
  go_enter Tryd.func14, Tryd.ntmps14
  go_wp2_with fail
  refine (EN.out _ (by repeat (first | with_reducible exact Ext.refl _ | with_reducible apply Ext.drew | with_reducible apply Ext.drewN | with_reducible apply Ext.alloc | ((with_reducible refine Ext.setCell ?_ ?_ _); rotate_left; focus (first | (simp; done) | (simp; omega) | omega)) | with_reducible refine Ext.tr ?_ x1 | with_reducible refine Ext.tr ?_ x2 | with_reducible refine Ext.tr ?_ hx | with_reducible assumption))).mono ?_
  rintro e w1 ⟨rfl, n1, hw1⟩
  have x1 : Ext w w1 := by rw [hw1]; exact (by repeat (first | with_reducible exact Ext.refl _ | with_reducible apply Ext.drew | with_reducible apply Ext.drewN | with_reducible apply Ext.alloc | ((with_reducible refine Ext.setCell ?_ ?_ _); rotate_left; focus (first | (simp; done) | (simp; omega) | omega)) | with_reducible refine Ext.tr ?_ x1 | with_reducible refine Ext.tr ?_ x2 | with_reducible refine Ext.tr ?_ hx | with_reducible assumption))
  have B1 := Lib.hid (show Blk w1 w.heap.size 27 #[.slice a1 d.input.length c1, .slice a3 d.layers.length c3, .int .i64 d.loss] by rw [hw1]; exact ((Blk.new w _ _).alloc _).drewN _)
  have B2 := Lib.hid (show Blk w1 (w.heap.size + 1) 27 #[.slice a2 d.input.length c2, .slice a4 d.layers.length c4, .int .i64 d.loss] by
    rw [hw1]
    have h1 := Blk.new (w.alloc (.cells #[.slice a1 d.input.length c1, .slice a3 d.layers.length c3, .int .i64 d.loss] 27)) 27 #[.slice a2 d.input.length c2, .slice a4 d.layers.length c4, .int .i64 d.loss]
    rw [World.size_alloc] at h1
    exact h1.drewN _)
  obtain ⟨k0, k1, k2, zk⟩ := B1.out.three'
  obtain ⟨r0, r1, r2, zr⟩ := B2.out.three'
  clear EN hw1
  go_wp2_with fail
  refine (EL.out _ x1).mono ?_
  rintro e w2 ⟨rfl, x2⟩
  replace k2 := x2.cell k2
  replace r2 := x2.cell r2
  have zz := x2.size
  have E : (d.loss == d.loss) = true := by simp
  clear EL k0 k1 r0 r1 B1 B2
  go_wp2_with fail
  go_ret
  exact ⟨rfl, x1.tr x2⟩
end Go.Proofs.YtgokenbojppnhaaDoor
