/- Layer 26, the plain law: a definition's text is read as it. -/
import Derived.Test.YtkdfenkpfffcaaaDoorDefText
namespace Go.Proofs.YtkdfenkpfffcaaaDoor
theorem dec_digs : ∀ (n : Nat), (∀ b ∈ Lib.decDigits n, digB b = true) ∧ valB (Lib.decDigits n) = n ∧ Lib.decDigits n ≠ [] ∧ (1 ≤ n → (Lib.decDigits n).head? ≠ some 48) ∧ (n < 10 → (Lib.decDigits n).length = 1) := by
  intro n
  induction n using Nat.strongRecOn with
  | _ n ih =>
    rw [Lib.decDigits]
    by_cases h : n < 10
    · rw [dif_pos h]
      have e : (UInt8.ofNat (48 + n)).toNat = 48 + n := by simp; omega
      refine ⟨fun b hb => ?_, ?_, by simp, fun h1 => ?_, fun _ => rfl⟩
      · cases List.mem_singleton.1 hb; simp only [digB]; rw [Bool.and_eq_true, decide_eq_true_eq, decide_eq_true_eq, e]; omega
      · simp only [valB, List.foldl_cons, List.foldl_nil]
        rw [e]; omega
      · simp only [List.head?_cons, ne_eq, Option.some.injEq]
        intro h2
        have := congrArg UInt8.toNat h2
        rw [e] at this
        have : (48 : UInt8).toNat = 48 := rfl
        omega
    · rw [dif_neg h]
      obtain ⟨h1, h2, h3, h4, h5⟩ := ih (n / 10) (by omega)
      have e : (UInt8.ofNat (48 + n % 10)).toNat = 48 + n % 10 := by simp; omega
      refine ⟨fun b hb => ?_, ?_, by simp, fun _ => ?_, fun h' => absurd h' h⟩
      · rcases List.mem_append.1 hb with hb | hb
        · exact h1 b hb
        · cases List.mem_singleton.1 hb; simp only [digB]; rw [Bool.and_eq_true, decide_eq_true_eq, decide_eq_true_eq, e]; omega
      · rw [valB_snoc, h2, e]; omega
      · rw [head_app h3]; exact h4 (by omega)
theorem dec_short : ∀ (k n : Nat), n < 10 ^ (k + 1) → (Lib.decDigits n).length ≤ k + 1
  | 0, n, h => by rw [Lib.decDigits, dif_pos (by omega)]; simp
  | k + 1, n, h => by
    rw [Lib.decDigits]
    split
    · simp
    · have := dec_short k (n / 10) (by rw [Nat.pow_succ] at h; omega)
      simp
      omega
theorem numB_itoa (n : Nat) (h : n ≤ 9999) : numB (Lib.decDigits n) = some n := by
  obtain ⟨h1, h2, h3, h4, h5⟩ := dec_digs n
  unfold numB
  rw [if_neg]
  · rw [if_pos (List.all_eq_true.2 h1), h2]
  · rintro (a | a | ⟨a, b⟩)
    · exact h3 a
    · have := dec_short 3 n (by omega); omega
    · rcases Nat.eq_zero_or_pos n with h0 | h0
      · have := h5 (by omega); omega
      · exact h4 h0 a
theorem allB_itoa : ∀ (ns : List Nat), (∀ n ∈ ns, n ≤ 9999) → allB (ns.map Lib.decDigits) = some ns
  | [], _ => rfl
  | n :: ns, h => by
    simp only [List.map_cons, allB]
    rw [numB_itoa n (h n (by simp)), allB_itoa ns (fun m hm => h m (by simp [hm]))]
theorem dig_ne {b : UInt8} (h : digB b = true) : b ≠ 32 ∧ b ≠ 10 := by
  have := dig_of h
  constructor
  · rintro rfl; have : (32 : UInt8).toNat = 32 := rfl; omega
  · rintro rfl; have : (10 : UInt8).toNat = 10 := rfl; omega
theorem cut_pieces {c : UInt8} : ∀ (x : Bs) (ws : List Bs), (∀ b ∈ x, b ≠ c) → (∀ w ∈ ws, ∀ b ∈ w, b ≠ c) → cutAt c (x ++ ws.flatMap (c :: ·)) = x :: ws
  | [], [], _, _ => rfl
  | [], w :: ws, _, h => by
    have ih := cut_pieces w ws (h w (by simp)) (fun v hv => h v (by simp [hv]))
    simp only [List.nil_append, List.flatMap_cons, List.cons_append]
    rw [cutAt_cons, if_pos rfl, ih]
  | y :: x, ws, hx, h => by
    have ih := cut_pieces x ws (fun b hb => hx b (by simp [hb])) h
    rw [List.cons_append, cutAt_cons, if_neg (hx y (by simp)), ih]
    rfl
theorem words_pieces (x : Bs) (ws : List Bs) (h0 : x ≠ []) (h1 : ∀ w ∈ ws, w ≠ []) (hx : ∀ b ∈ x, b ≠ 32) (hw : ∀ w ∈ ws, ∀ b ∈ w, b ≠ 32) : wordsS (x ++ ws.flatMap (32 :: ·)) = x :: ws := by
  unfold wordsS
  rw [cut_pieces x ws hx hw, if_neg]
  intro h
  rcases List.mem_cons.1 h with h | h
  · exact h0 h.symm
  · exact h1 _ h rfl
theorem cut_lines_of : ∀ (ls : List Bs), (∀ l ∈ ls, ∀ b ∈ l, b ≠ 10) → cutAt 10 (joinL ls) = ls ++ [[]]
  | [], _ => rfl
  | l :: ls, h => by
    have ih := cut_lines_of ls (fun m hm => h m (by simp [hm]))
    have e : joinL (l :: ls) = l ++ 10 :: joinL ls := by simp [joinL]
    rw [e]
    have key : ∀ (x r : Bs), (∀ b ∈ x, b ≠ 10) → cutAt 10 (x ++ 10 :: r) = x :: cutAt 10 r := by
      intro x r hx
      induction x with
      | nil => rw [List.nil_append, cutAt_cons, if_pos rfl]
      | cons y x ih2 => rw [List.cons_append, cutAt_cons, if_neg (hx y (by simp)), ih2 (fun b hb => hx b (by simp [hb]))]; rfl
    rw [key l _ (h l (by simp)), ih]
    rfl
theorem name_ok (k : Nat) : ∀ b ∈ nameB k, b ≠ 32 ∧ b ≠ 10 := by
  unfold nameB
  split <;> decide
theorem name_some {k : Nat} (h : k ∈ kindsT) : nameB k ≠ [] := by
  simp only [kindsT, List.mem_cons, List.not_mem_nil, or_false] at h
  rcases h with rfl | rfl | rfl | rfl | rfl | rfl | rfl | rfl | rfl | rfl | rfl | rfl <;> decide
/-- A layer's line without its end. -/
def lineL (k : Nat) (f : LayF) : Bs := nameB k ++ numsT ((placesK k).map f.at)
mutual
def Lay.lines : Lay → List Bs
  | .mk f b => if f.kind = 13 then nameB 13 :: (linesS b ++ [endB]) else match kindT f.kind with
    | some k => [lineL k f]
    | none => []
def linesS : List Lay → List Bs
  | [] => []
  | l :: ls => l.lines ++ linesS ls
end
mutual
theorem text_lines : ∀ (l : Lay), l.text = joinL l.lines
  | .mk f b => by
    rw [Lay.text, Lay.lines]
    split
    · rw [texts_lines b]; simp [joinL]
    · cases kindT f.kind with
      | none => rfl
      | some k => simp [joinL, lineT, lineL]
theorem texts_lines : ∀ (ls : List Lay), textS ls = joinL (linesS ls)
  | [] => rfl
  | l :: ls => by rw [textS, linesS, joinL_app, text_lines l, texts_lines ls]
end
theorem fits_le {k : Nat} {ns : List Nat} (h : fitsK k ns = true) : ns.length = (placesK k).length ∧ ∀ n ∈ ns, n ≤ 9999 := by
  unfold fitsK at h
  simp only [Bool.and_eq_true, decide_eq_true_eq] at h
  refine ⟨h.1, fun n hn => ?_⟩
  obtain ⟨i, hi, rfl⟩ := List.getElem_of_mem hn
  have := (fitsFrom_iff.1 h.2 i hi).2
  unfold highK at this
  split at this <;> omega
/-- A good layer's line is read as the layer. -/
theorem line_read {k : Nat} {f : LayF} (hk : kindT f.kind = some k) (ho : okF k f = true) : ∃ ws, wordsS (lineL k f) = nameB k :: ws ∧ oneS (nameB k :: ws) = some f ∧ k ∈ kindsT ∧ (∀ b ∈ lineL k f, b ≠ 10) := by
  have hm : k ∈ kindsT := List.mem_of_find?_eq_some hk
  unfold okF at ho
  simp only [Bool.and_eq_true, decide_eq_true_eq] at ho
  obtain ⟨hf, he⟩ := ho
  obtain ⟨hl, hn⟩ := fits_le hf
  have hat : (placesK k).map f.at = (nsOf k f).map (fun (n : Nat) => (n : Int)) := by
    conv => lhs; rw [he]
    exact set_nums (kindT_of hm).2.1 hl
  have hnum : numsT ((placesK k).map f.at) = ((nsOf k f).map Lib.decDigits).flatMap (32 :: ·) := by
    rw [hat]
    unfold numsT numT
    rw [List.flatMap_map, List.flatMap_map]
    congr 1
  have hd : ∀ w ∈ (nsOf k f).map Lib.decDigits, ∀ b ∈ w, b ≠ 32 ∧ b ≠ 10 := fun w hw b hb => by
    obtain ⟨n, -, rfl⟩ := List.mem_map.1 hw
    exact dig_ne ((dec_digs n).1 b hb)
  refine ⟨(nsOf k f).map Lib.decDigits, ?_, ?_, hm, ?_⟩
  · unfold lineL
    rw [hnum]
    exact words_pieces _ _ (name_some hm) (fun w hw => by obtain ⟨n, -, rfl⟩ := List.mem_map.1 hw; exact (dec_digs n).2.2.1) (fun b hb => (name_ok k b hb).1) (fun w hw b hb => (hd w hw b hb).1)
  · rw [oneS_all]
    have hkb : kindB (nameB k) = some k := by
      obtain ⟨i, hi, h⟩ := List.getElem_of_mem hm
      have := kindB_at (i := i) hi
      rw [List.getD_eq_getElem?_getD, List.getElem?_eq_getElem hi, Option.getD_some, h] at this
      exact this
    rw [hkb]
    simp only
    rw [allB_itoa _ hn]
    simp only
    rw [if_pos hf, ← he]
  · intro b hb
    unfold lineL at hb
    rw [hnum] at hb
    rcases List.mem_append.1 hb with hb | hb
    · exact (name_ok k b hb).2
    · obtain ⟨w, hw, hb⟩ := List.mem_flatMap.1 hb
      rcases List.mem_cons.1 hb with rfl | hb
      · decide
      · exact (hd w hw b hb).2
end Go.Proofs.YtkdfenkpfffcaaaDoor
