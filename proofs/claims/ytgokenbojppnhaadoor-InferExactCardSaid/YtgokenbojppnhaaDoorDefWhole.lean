/- (*def.reader).whole: what it reads. -/
import Derived.Test.YtgokenbojppnhaaDoorDefBody2
import Derived.Test.YtgokenbojppnhaaDoorDefText
namespace Go.Proofs.YtgokenbojppnhaaDoor
open Go.RowKit
/-- What whole reads: a definition, or none; the line at which reading stands. -/
def wholeP (LL : List (List Bs)) : Option DefL × Nat :=
  match LL[0]? with
  | none => (none, 0)
  | some W => if W.length < 2 ∨ 4 < W.length ∨ W.head? ≠ some inputB then (none, 0) else
    match dimsB W.tail with
    | none => (none, 0)
    | some ns => match bodyP LL (LL.length + 1) 0 1 64 [] with
      | (none, i, _) => (none, i)
      | (some L, i, _) => match LL[i]? with
        | none => (none, i)
        | some W' => if lossK W' = 0 then (none, i) else if i + 1 < LL.length then (none, i + 1) else (some ⟨ns.map (fun (n : Nat) => (n : Int)), L, lossK W'⟩, i + 1)
theorem parseP_whole (LL : List (List Bs)) (rest : Bs) : parseP LL rest = match wholeP LL with
    | (none, i) => (none, i)
    | (some d, _) => if rest ≠ [] then (none, LL.length) else (some d, 0) := by
  unfold parseP wholeP
  cases LL[0]? with
  | none => rfl
  | some W =>
    simp only
    split
    · rfl
    · cases dimsB W.tail with
      | none => rfl
      | some ns =>
        simp only
        obtain ⟨⟨o, i, l⟩, hp⟩ : ∃ p, bodyP LL (LL.length + 1) 0 1 64 [] = p := ⟨_, rfl⟩
        rw [hp]
        cases o with
        | none => rfl
        | some L =>
          simp only
          cases LL[i]? with
          | none => rfl
          | some W' =>
            simp only
            split
            · rfl
            · split <;> rfl
/-- A definition in new memory. -/
structure DefNew (base : Nat) (w : World) (v : Value) (d : DefL) : Prop where
  is : ∃ iv lv, v = .agg #[iv, lv, .int .i64 d.loss] ∧ w.ownsRow base 3 1 iv d.input.length (d.input.map (Value.int .i64)) ∧ MyLays (fun b => base ≤ b ∧ b < w.heap.size) w 5 lv d.layers
def zeroDef : Value := .agg #[.slice none 0 0, .slice none 0 0, .int .i64 0]
/-- Dimensions read so far. -/
theorem dimsB_snoc : ∀ {L : List Bs} {x : Bs} {l : List Nat} {n : Nat}, dimsB L = some l → numB x = some n → 1 ≤ n → n ≤ 4096 → dimsB (L ++ [x]) = some (l ++ [n])
  | [], x, l, n, h, e, h1, h2 => by simp [dimsB] at h; subst h; simp [dimsB, e, h1, h2]
  | y :: L, x, l, n, h, e, h1, h2 => by
    simp only [dimsB, List.cons_append] at h ⊢
    cases h3 : numB y with
    | none => rw [h3] at h; simp at h
    | some m =>
      rw [h3] at h
      simp only at h ⊢
      split at h
      · rename_i hm
        rw [if_pos hm]
        cases h4 : dimsB L with
        | none => rw [h4] at h; simp at h
        | some k =>
          rw [h4] at h
          simp at h
          subst h
          rw [dimsB_snoc h4 e h1 h2]
          rfl
      · simp at h
theorem dimsB_bad : ∀ {L : List Bs} {x : Bs}, x ∈ L → (∀ n, numB x = some n → ¬ (1 ≤ n ∧ n ≤ 4096)) → dimsB L = none
  | y :: L, x, h, hb => by
    simp only [dimsB]
    rcases List.mem_cons.1 h with rfl | h
    · cases h1 : numB x with
      | none => rfl
      | some n => simp only; rw [if_neg (hb n h1)]
    · cases h1 : numB y with
      | none => rfl
      | some n =>
        simp only
        split
        · rw [dimsB_bad h hb]
        · rfl
theorem take_snoc' {α : Type} {s : List α} {i : Nat} (h : i < s.length) : s.take (i + 1) = s.take i ++ [s[i]] := by rw [List.take_add_one, List.getElem?_eq_getElem h]; rfl
theorem own_form0 {w : World} {base : Nat} {e : TypeId} {size : Nat} {v : Value} {n : Nat} {xs : List Value} (h : w.ownsRow base e size v n xs) : ∃ a c, v = .slice a n c := by
  rcases h.2 with ⟨rfl, rfl⟩ | ⟨g, cap, _, rfl, _⟩
  · exact ⟨none, 0, rfl⟩
  · exact ⟨_, _, rfl⟩
theorem int_info : (Tryd.prog.info? 3).map (fun i => (i.zero, i.size, i.bytes)) = some (some (.int .i64 0), 1, 8) := by kernel_rfl
theorem GB.far {w W : World} {R b o : Nat} {u : Value} (h : GB w W R) (hb : w.heap.size ≤ b) : GB w (W.setCell ⟨b, o, none⟩ u) R :=
  ⟨h.os, h.tape, h.output, Nat.le_trans h.size (KeepsWalks.setCell W _ u).size, fun i hi hne => (Below.heap_setCell W _ u i (fun e => by have : i = b := e; omega)).trans (h.block i hi hne)⟩
/-- The loss, when the first j names have been looked at. -/
def lossTo (y : Bs) (j : Nat) : Int := if 2 ≤ j ∧ y = xentB then 1 else if 3 ≤ j ∧ y = squareB then 2 else 0
theorem two_of {α : Type} {L : List α} (h : L.length = 2) : ∃ p y, L = [p, y] := by
  match L, h with
  | [p, y], _ => exact ⟨p, y, rfl⟩
theorem lossTo_all (y : Bs) : lossK [lossB, y] = lossTo y 3 := by simp [lossK, lossTo]
theorem lossK_bad {W : List Bs} (h : ¬ ∃ y, W = [lossB, y]) : lossK W = 0 := by
  unfold lossK
  rw [if_neg (fun e => h ⟨_, e⟩), if_neg (fun e => h ⟨_, e⟩)]
theorem lossTo_1 (y : Bs) : lossTo y 0 = lossTo y 1 := by simp [lossTo]
theorem lossTo_2 {y : Bs} (h : y ≠ xentB) : lossTo y 1 = lossTo y 2 := by simp [lossTo, h]
theorem lossTo_2x : lossTo xentB 2 = 1 := by simp [lossTo]
theorem lossTo_3 {y : Bs} (h : y ≠ squareB) : lossTo y 2 = lossTo y 3 := by simp [lossTo, h]
theorem lossTo_3s : lossTo squareB 3 = 2 := by decide
theorem GB.farther {w V W : World} {R b : Nat} (h : GB w V R) (g : GB V W b) (hb : w.heap.size ≤ b) : GB w W R :=
  ⟨g.os.trans h.os, g.tape.trans h.tape, g.output.trans h.output, Nat.le_trans h.size g.size, fun i hi hne => (g.block i (Nat.lt_of_lt_of_le hi h.size) (fun e => by have := Option.some.inj e; omega)).trans (h.block i hi hne)⟩
end Go.Proofs.YtgokenbojppnhaaDoor
