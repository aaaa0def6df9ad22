/- Layer 26, the plain law: a definition's text is read as it; one byte less or a blank more is none. -/
import Derived.Test.YtkdfenkpfffcaaaDoorDefBackLaw2
import Derived.Test.YtkdfenkpfffcaaaDoorDefParse
namespace Go.Proofs.YtkdfenkpfffcaaaDoor
theorem print_ends (d : DefL) : ∃ q, printS d = q ++ [10] := ⟨_, rfl⟩
theorem print_tail (d : DefL) : ∃ q c, printS d = q ++ [c] ++ [10] ∧ c ≠ 10 := by
  unfold printS
  by_cases h : d.loss = 1
  · rw [if_pos h]
    refine ⟨inputB ++ numsT d.input ++ [10] ++ textS d.layers ++ lossB ++ [32] ++ xentB.dropLast, xentB.getLastD 0, ?_, by decide⟩
    simp only [List.append_assoc]
    rfl
  · rw [if_neg h]
    refine ⟨inputB ++ numsT d.input ++ [10] ++ textS d.layers ++ lossB ++ [32] ++ squareB.dropLast, squareB.getLastD 0, ?_, by decide⟩
    simp only [List.append_assoc]
    rfl
theorem parse_ends {b : Bs} {c : UInt8} (h : c ≠ 10) : (parseS (b ++ [c])).1 = none := by
  unfold parseS
  split
  · rfl
  · cases hp : parseP ((cutAt 10 (b ++ [c])).dropLast.map wordsS) (restB (b ++ [c])) with
    | mk r n =>
      cases r with
      | none => rfl
      | some d =>
        obtain ⟨-, h2⟩ := parse_text hp
        obtain ⟨q, hq⟩ := print_ends d
        rw [hq] at h2
        have := (List.append_inj' h2 rfl).2
        cases this
        exact absurd rfl h
/-- A good definition's text is read as it; of one byte less, or of a blank more, none is read. -/
theorem parse_back {d : DefL} (h : goodD d = true) (hl : (printS d).length ≤ 8192) : parseS (printS d) = (some d, 0) ∧ (parseS ((printS d).take ((printS d).length - 1))).1 = none ∧ (parseS (printS d ++ [32])).1 = none := by
  refine ⟨?_, ?_, parse_ends (by decide)⟩
  · have hno : ∀ s ∈ linesD d, ∀ b ∈ s, b ≠ 10 := by
      have hg := h
      unfold goodD at hg
      simp only [Bool.and_eq_true, decide_eq_true_eq] at hg
      obtain ⟨⟨⟨hin, hloss⟩, hall⟩, hg⟩ := hg
      obtain ⟨l', hg⟩ := Option.isSome_iff_exists.1 hg
      obtain ⟨ns, hns, hn⟩ := nats_of (xs := d.input) (fun x hx => by have := List.all_eq_true.1 hall x hx; simpa using this)
      intro s hs
      unfold linesD at hs
      rcases List.mem_cons.1 hs with rfl | hs
      · intro b hb
        rcases List.mem_append.1 hb with hb | hb
        · exact (show ∀ b ∈ inputB, b ≠ 10 by decide) b hb
        · rw [hns, nums_nat] at hb
          obtain ⟨w, hw, hb⟩ := List.mem_flatMap.1 hb
          rcases List.mem_cons.1 hb with rfl | hb
          · decide
          · obtain ⟨n, -, rfl⟩ := List.mem_map.1 hw
            exact (dig_ne ((dec_digs n).1 b hb)).2
      · rcases List.mem_append.1 hs with hs | hs
        · exact good_lines d.layers hg s hs
        · cases List.mem_singleton.1 hs
          split <;> decide
    have hc : cutAt 10 (printS d) = linesD d ++ [[]] := by rw [print_lines]; exact cut_lines_of _ hno
    unfold parseS
    rw [if_neg (by omega)]
    unfold restB
    rw [hc, List.dropLast_concat]
    have : (linesD d ++ [([] : Bs)]).getLastD [] = [] := by simp
    rw [this, print_back h, if_pos rfl]
  · obtain ⟨q, c, e, hne⟩ := print_tail d
    have : (printS d).take ((printS d).length - 1) = q ++ [c] := by
      rw [e, List.length_append, show [(10 : UInt8)].length = 1 from rfl, Nat.add_sub_cancel]
      exact List.take_left
    rw [this]
    exact parse_ends hne
end Go.Proofs.YtkdfenkpfffcaaaDoor
