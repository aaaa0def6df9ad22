/- Layer 26 (def), the plain law: what a text says. No function of the program is named here. Strings as lists of bytes; rows of values; def.wordsOf. def.number, def.is, ratchetref26.number. ratchetref26.number; def.is. -/
import Derived.Test.YtgokenbojppnhaaDoorBase
import Derived.Test.YtgokenbojppnhaaDoorClones
import Derived.Laws.DeepStrings4
namespace Go.Proofs.YtgokenbojppnhaaDoor
abbrev Bs := List UInt8
/-- Bytes cut at each c. -/
def cutAt (c : UInt8) : Bs → List Bs
  | [] => [[]]
  | x :: xs => if x = c then [] :: cutAt c xs else (cutAt c xs).modifyHead (x :: ·)
theorem cutAt_cons (c y : UInt8) (l : Bs) : cutAt c (y :: l) = if y = c then [] :: cutAt c l else (cutAt c l).modifyHead (y :: ·) := rfl
theorem cutAt_some (c : UInt8) (l : Bs) : ∃ h t, cutAt c l = h :: t := by
  induction l with
  | nil => exact ⟨_, _, rfl⟩
  | cons x xs ih =>
    obtain ⟨h, t, e⟩ := ih
    unfold cutAt
    split
    · exact ⟨_, _, rfl⟩
    · rw [e]; exact ⟨_, _, rfl⟩
theorem cutAt_one {c x : UInt8} : ∀ {l : Bs} {L : List Bs} {t : Bs}, cutAt c l = L ++ [t] → cutAt c (l ++ [x]) = if x = c then L ++ [t] ++ [[]] else L ++ [t ++ [x]]
  | [], L, t, h => by
    have e : L = [] ∧ t = [] := by
      cases L with
      | nil => simp [cutAt] at h; exact ⟨rfl, h⟩
      | cons a L => simp [cutAt] at h
    obtain ⟨rfl, rfl⟩ := e
    by_cases hx : x = c <;> simp [cutAt, hx]
  | y :: l, L, t, h => by
    obtain ⟨a, q, e⟩ := cutAt_some c l
    rw [List.cons_append]
    unfold cutAt at h ⊢
    by_cases hy : y = c
    · rw [if_pos hy] at h ⊢
      cases L with
      | nil => rw [e] at h; simp at h
      | cons b L =>
        rw [List.cons_append, List.cons.injEq] at h
        rw [cutAt_one h.2, ← h.1]
        split <;> simp
    · rw [if_neg hy] at h ⊢
      cases L with
      | nil =>
        rw [e] at h
        simp only [List.modifyHead_cons, List.nil_append, List.cons.injEq] at h
        rw [cutAt_one (L := []) (t := a) (by rw [e, h.2]; rfl)]
        rw [← h.1]
        split <;> simp
      | cons b L =>
        rw [e] at h
        simp only [List.modifyHead_cons, List.cons_append, List.cons.injEq] at h
        rw [cutAt_one (L := a :: L) (t := t) (by rw [e, h.2]; rfl), ← h.1]
        split <;> simp
theorem cutAt_append {c : UInt8} : ∀ {p : Bs} {L : List Bs} {t : Bs} (q : Bs), cutAt c p = L ++ [t] → cutAt c (p ++ q) = L ++ (cutAt c q).modifyHead (t ++ ·)
  | [], L, t, q, h => by
    have e : L = [] ∧ t = [] := by
      cases L with
      | nil => simp [cutAt] at h; exact ⟨rfl, h⟩
      | cons a L => simp [cutAt] at h
    obtain ⟨rfl, rfl⟩ := e
    obtain ⟨a, r, e⟩ := cutAt_some c q
    simp [e]
  | y :: l, L, t, q, h => by
    obtain ⟨a, r, e⟩ := cutAt_some c l
    rw [List.cons_append]
    rw [cutAt_cons] at h ⊢
    by_cases hy : y = c
    · rw [if_pos hy] at h ⊢
      cases L with
      | nil => rw [e] at h; simp at h
      | cons b L =>
        rw [List.cons_append, List.cons.injEq] at h
        rw [cutAt_append q h.2, ← h.1]
        rfl
    · rw [if_neg hy] at h ⊢
      obtain ⟨a2, r2, e2⟩ := cutAt_some c q
      cases L with
      | nil =>
        rw [e] at h
        simp only [List.modifyHead_cons, List.nil_append, List.cons.injEq] at h
        rw [cutAt_append (L := []) (t := a) q (by rw [e, h.2]; rfl), e2, ← h.1]
        simp
      | cons b L =>
        rw [e] at h
        simp only [List.modifyHead_cons, List.cons_append, List.cons.injEq] at h
        rw [cutAt_append (L := a :: L) (t := t) q (by rw [e, h.2]; rfl), ← h.1]
        simp
/-- Where a cutting stands: the pieces that are closed, and where the open one begins. -/
def CutTo (c : UInt8) (s : Bs) (i o : Nat) (L : List Bs) : Prop := o ≤ i ∧ i ≤ s.length ∧ cutAt c (s.take i) = L ++ [(s.take i).drop o]
theorem CutTo.zero (c : UInt8) (s : Bs) : CutTo c s 0 0 [] := ⟨by omega, by omega, by simp [cutAt]⟩
theorem take_snoc {s : Bs} {i : Nat} (h : i < s.length) : s.take (i + 1) = s.take i ++ [s[i]] := by rw [List.take_add_one, List.getElem?_eq_getElem h]; rfl
theorem CutTo.other {c : UInt8} {s : Bs} {i o : Nat} {L : List Bs} (h : CutTo c s i o L) (hi : i < s.length) (hx : s[i] ≠ c) : CutTo c s (i + 1) o L := by
  refine ⟨by have := h.1; omega, hi, ?_⟩
  rw [take_snoc hi, cutAt_one h.2.2, if_neg hx, List.drop_append_of_le_length (by simp; have := h.1; omega)]
theorem CutTo.cut {c : UInt8} {s : Bs} {i o : Nat} {L : List Bs} (h : CutTo c s i o L) (hi : i < s.length) (hx : s[i] = c) : CutTo c s (i + 1) (i + 1) (L ++ [(s.take i).drop o]) := by
  refine ⟨by omega, hi, ?_⟩
  rw [take_snoc hi, cutAt_one h.2.2, if_pos hx]
  congr 1
  rw [List.drop_of_length_le (by simp; omega)]
theorem CutTo.all {c : UInt8} {s : Bs} {o : Nat} {L : List Bs} (h : CutTo c s s.length o L) : cutAt c s = L ++ [s.drop o] := by
  have := h.2.2
  rwa [List.take_length] at this
theorem CutTo.empty {c : UInt8} {s : Bs} {i : Nat} {L : List Bs} (h : CutTo c s i i L) (hx : i = s.length ∨ ∃ k : i < s.length, s[i] = c) : [] ∈ cutAt c s := by
  have e := h.2.2
  rw [List.drop_of_length_le (by simp; omega)] at e
  have a := cutAt_append (s.drop i) e
  rw [List.take_append_drop] at a
  rw [a]
  refine List.mem_append_right _ ?_
  rcases hx with hx | ⟨k, hx⟩
  · rw [List.drop_of_length_le (by omega)]; simp [cutAt]
  · rw [List.drop_eq_getElem_cons k, hx]; simp [cutAt]
theorem CutTo.mem {c : UInt8} {s : Bs} {i o : Nat} {L : List Bs} (h : CutTo c s i o L) {x : Bs} (hx : x ∈ L) : x ∈ cutAt c s := by
  have a := cutAt_append (s.drop i) h.2.2
  rw [List.take_append_drop] at a
  rw [a]
  exact List.mem_append_left _ hx
/-- A line's words; none: it has a blank too many. -/
def wordsS (s : Bs) : List Bs := if [] ∈ cutAt 32 s then [] else cutAt 32 s
/-- Is it a digit? -/
def digB (b : UInt8) : Bool := decide (48 ≤ b.toNat) && decide (b.toNat ≤ 57)
/-- The number of digits. -/
def valB (s : Bs) : Nat := s.foldl (fun n b => 10 * n + (b.toNat - 48)) 0
/-- Digits without a needless nought ahead, at most four. -/
def numB (s : Bs) : Option Nat := if s = [] ∨ 4 < s.length ∨ (s.head? = some 48 ∧ 1 < s.length) then none else if s.all digB then some (valB s) else none
theorem valB_snoc (s : Bs) (b : UInt8) : valB (s ++ [b]) = 10 * valB s + (b.toNat - 48) := by simp [valB, List.foldl_append]
theorem valB_lt : ∀ (k : Nat) {s : Bs}, s.length = k → (∀ b ∈ s, digB b = true) → valB s < 10 ^ k
  | 0, s, h, _ => by
    have : s = [] := List.eq_nil_of_length_eq_zero h
    subst this; simp [valB]
  | k + 1, s, h, hd => by
    obtain ⟨q, b, rfl⟩ : ∃ q b, s = q ++ [b] := ⟨s.dropLast, s.getLast (by intro e; subst e; simp at h), (List.dropLast_concat_getLast _).symm⟩
    have h1 := valB_lt k (s := q) (by simp at h; exact h) (fun b hb => hd b (by simp [hb]))
    have h2 := hd b (by simp)
    simp only [digB, Bool.and_eq_true, decide_eq_true_eq] at h2
    rw [valB_snoc, Nat.pow_succ]
    omega
/-- What a layer has besides its body. -/
structure LayF where
  kind : Int
  inn : Int
  out : Int
  size : Int
  stride : Int
  pad : Int
  percent : Int
  heads : Int
deriving DecidableEq
def LayF.at (f : LayF) : Nat → Int
  | 0 => f.kind
  | 1 => f.inn
  | 2 => f.out
  | 3 => f.size
  | 4 => f.stride
  | 5 => f.pad
  | 6 => f.percent
  | _ => f.heads
def LayF.set (f : LayF) (i : Nat) (x : Int) : LayF := match i with
  | 0 => { f with kind := x }
  | 1 => { f with inn := x }
  | 2 => { f with out := x }
  | 3 => { f with size := x }
  | 4 => { f with stride := x }
  | 5 => { f with pad := x }
  | 6 => { f with percent := x }
  | _ => { f with heads := x }
/-- A layer: its numbers, its body. -/
inductive Lay where
  | mk (f : LayF) (b : List Lay)
def Lay.f : Lay → LayF
  | .mk f _ => f
def Lay.b : Lay → List Lay
  | .mk _ b => b
/-- A kind's word. -/
def nameB : Nat → Bs
  | 1 => [108, 105, 110, 101, 97, 114]
  | 2 => [99, 111, 110, 118]
  | 3 => [114, 101, 108, 117]
  | 4 => [116, 97, 110, 104]
  | 5 => [115, 105, 103, 109, 111, 105, 100]
  | 6 => [110, 111, 114, 109]
  | 7 => [100, 114, 111, 112]
  | 8 => [109, 97, 120, 112, 111, 111, 108]
  | 9 => [97, 118, 103, 112, 111, 111, 108]
  | 10 => [102, 108, 97, 116, 116, 101, 110]
  | 11 => [101, 109, 98, 101, 100]
  | 12 => [97, 116, 116, 101, 110, 116, 105, 111, 110]
  | 13 => [114, 101, 115, 105, 100, 117, 97, 108]
  | _ => []
/-- The places of a kind's numbers. -/
def placesK : Nat → List Nat
  | 1 => [1, 2]
  | 2 => [1, 2, 3, 4, 5]
  | 7 => [6]
  | 8 => [3]
  | 9 => [3]
  | 11 => [1, 2]
  | 12 => [1, 7]
  | _ => []
def lowK (k i : Nat) : Int := if k = 7 ∨ (k = 2 ∧ i = 4) then 0 else 1
def highK (k : Nat) : Int := if k = 7 then 99 else 4096
/-- The kinds, in the table's order. -/
def kindsT : List Nat := [1, 2, 3, 4, 5, 6, 10, 7, 8, 9, 11, 12]
/-- The kind of a word, no residual. -/
def kindB (x : Bs) : Option Nat := kindsT.find? (fun k => decide (nameB k = x))
def LayF.zero : LayF := ⟨0, 0, 0, 0, 0, 0, 0, 0⟩
/-- A kind's numbers, from the j-th on, out of words. -/
def numsFrom (k : Nat) : Nat → LayF → List Bs → List Nat → Option LayF
  | _, f, [], [] => some f
  | j, f, x :: ws, p :: ps => match numB x with
    | some n => if lowK k j ≤ (n : Int) ∧ (n : Int) ≤ highK k then numsFrom k (j + 1) (f.set p n) ws ps else none
    | none => none
  | _, _, _, _ => none
theorem numsFrom_len {k : Nat} : ∀ {ws : List Bs} {ps : List Nat} {j : Nat} {f : LayF}, ws.length ≠ ps.length → numsFrom k j f ws ps = none
  | [], [], _, _, h => absurd rfl h
  | [], _ :: _, _, _, _ => by simp [numsFrom]
  | _ :: _, [], _, _, _ => by simp [numsFrom]
  | x :: ws, p :: ps, j, f, h => by
    simp only [numsFrom]
    split
    · split
      · exact numsFrom_len (by simpa using h)
      · rfl
    · rfl
/-- A line's layer, no residual. -/
def oneS : List Bs → Option LayF
  | [] => none
  | x :: ws => match kindB x with
    | none => none
    | some k => numsFrom k 0 { LayF.zero with kind := k } ws (placesK k)
theorem kindB_none {x : Bs} (h : ∀ i, i < 12 → nameB (kindsT.getD i 0) ≠ x) : kindB x = none := by
  unfold kindB
  refine List.find?_eq_none.2 (fun k hk => ?_)
  obtain ⟨i, hi, rfl⟩ := List.getElem_of_mem hk
  have := h i hi
  rw [List.getD_eq_getElem?_getD, List.getElem?_eq_getElem hi] at this
  simpa using this
theorem kindB_at {i : Nat} (hi : i < 12) : kindB (nameB (kindsT.getD i 0)) = some (kindsT.getD i 0) := by
  have hh : i = 0 ∨ i = 1 ∨ i = 2 ∨ i = 3 ∨ i = 4 ∨ i = 5 ∨ i = 6 ∨ i = 7 ∨ i = 8 ∨ i = 9 ∨ i = 10 ∨ i = 11 := by omega
  rcases hh with rfl | rfl | rfl | rfl | rfl | rfl | rfl | rfl | rfl | rfl | rfl | rfl <;> decide
end Go.Proofs.YtgokenbojppnhaaDoor
namespace Go.Proofs.YtgokenbojppnhaaDoor
open Go.RowKit
/-- A list of bytes as a string. -/
def ba (l : Bs) : ByteArray := ⟨l.toArray⟩
theorem ba_size (l : Bs) : (ba l).size = l.length := by simp [ba, ByteArray.size]
theorem ba_toList (l : Bs) : (ba l).toList = l := ByteArray.toList_mk l
theorem ba_at {l : Bs} {k : Nat} (h : k < (ba l).size) : (ba l)[k]'h = l[k]'(by rw [ba_size] at h; exact h) := by
  simp [ba, ByteArray.getElem_eq_getElem_data]
theorem ba_extract (l : Bs) (i j : Nat) : (ba l).extract i j = ba ((l.take j).drop i) := by
  apply ByteArray.ext
  rw [ByteArray.data_extract]
  simp [ba, List.extract_toArray, List.drop_take]
/-- A string behind a letter. -/
theorem str_of (t : Bs) : ∃ S, ba t = S ∧ S.size = t.length ∧ Hid (∀ (k : Nat) (hk : k < t.length) (h : k < S.size), S[k]'h = t[k]'hk) ∧ Hid (∀ i j, S.extract i j = ba ((t.take j).drop i)) ∧ Hid (S.toList = t) :=
  ⟨_, rfl, ba_size t, Lib.hid (fun _ _ h => ba_at h), Lib.hid (ba_extract t), Lib.hid (ba_toList t)⟩
theorem ba_inj {a b : Bs} (h : ba a = ba b) : a = b := by rw [← ba_toList a, ← ba_toList b, h]
theorem ba_of (s : ByteArray) : ba s.data.toList = s := by simp [ba]
/-- Strings, as a row's values. -/
def strs (L : List Bs) : List Value := L.map (fun x => .string (ba x))
/-- A row of values, as a world reads it. -/
def RowV (w : World) (v : Value) (vs : List Value) : Prop :=
  ∃ a cap, v = .slice a vs.length cap ∧ vs.length ≤ cap ∧ cap ≤ maxLen ∧ (vs ≠ [] → ∃ b o, a = some ⟨b, o, none⟩ ∧ ∀ i, i < vs.length → w.cell? ⟨b, o + i, none⟩ = vs[i]?)
theorem RowV.ext {w w' : World} {v : Value} {vs : List Value} (h : RowV w v vs) (x : Ext w w') : RowV w' v vs := by
  obtain ⟨a, cap, rfl, h1, h2, h3⟩ := h
  refine ⟨a, cap, rfl, h1, h2, fun hn => ?_⟩
  obtain ⟨b, o, rfl, hc⟩ := h3 hn
  refine ⟨b, o, rfl, fun i hi => ?_⟩
  have e := hc i hi
  rw [List.getElem?_eq_getElem hi] at e ⊢
  exact x.cell e
theorem RowV.of_owns {w : World} {base : Nat} {e : TypeId} {v : Value} {n : Nat} {xs : List Value} (h : w.ownsRow base e 1 v n xs) : RowV w v xs := by
  have hl : xs.length = n := by simpa using h.1
  subst hl
  rcases h.2 with ⟨rfl, h0⟩ | ⟨g, cap, cur, rfl, hb, hg, h1, h2, h3, h4⟩
  · have : xs = [] := List.eq_nil_of_length_eq_zero h0
    subst this; exact ⟨none, 0, rfl, by simp, by simp [maxLen], fun h => absurd rfl h⟩
  · refine ⟨_, cap, rfl, h1, h2, fun _ => ⟨g, 0, rfl, fun i hi => ?_⟩⟩
    rw [Nat.zero_add, h.cellAt i (by omega)]
theorem str_info : (Tryd.prog.info? 9).map (fun i => (i.zero, i.size, i.bytes)) = some (some (.string ByteArray.empty), 1, 16) := by kernel_rfl
theorem oneS_1 (x : ByteArray) : ∀ u ∈ [Value.string x], u.oneCell' = true := by
  intro u hu; simp at hu; subst hu; rfl
theorem strs_snoc (L : List Bs) (x : Bs) : strs (L ++ [x]) = strs L ++ [.string (ba x)] := by simp [strs]
theorem strs_len (L : List Bs) : (strs L).length = L.length := by simp [strs]
theorem byte_ne {b : UInt8} {c : UInt8} (h : b ≠ c) : ((b.toNat : Int) != c.toNat) = true ∧ ((b.toNat : Int) == c.toNat) = false := by
  have : (b.toNat : Int) ≠ c.toNat := fun e => h (UInt8.toNat_inj.1 (Int.ofNat.inj e))
  exact ⟨by simpa using this, by simpa using this⟩
end Go.Proofs.YtgokenbojppnhaaDoor
namespace Go.Proofs.YtgokenbojppnhaaDoor
open Go.RowKit
theorem dig_iff {b : UInt8} : digB b = true ↔ 48 ≤ b.toNat ∧ b.toNat ≤ 57 := by simp [digB]
theorem take_getD_snoc {t : Bs} {k : Nat} (h : k < t.length) : t.take (k + 1) = t.take k ++ [t[k]] := take_snoc h
theorem u8_sub {b : Nat} (h1 : 48 ≤ b) (h2 : b ≤ 57) : IntKind.u8.wrap ((b : Int) - 48) = (b : Int) - 48 := by
  have : IntKind.u8.wrap ((b : Int) - 48) = ((b : Int) - 48) % 256 := rfl
  rw [this]; omega
/-- What number tells. -/
def numR (t : Bs) (lo hi : Int) : Int × Bool := match numB t with
  | none => (0, false)
  | some n => (n, decide (lo ≤ (n : Int)) && decide ((n : Int) ≤ hi))
theorem numB_bad {t : Bs} {k : Nat} (h : k < t.length) (hd : digB t[k] = false) : numB t = none := by
  unfold numB
  split
  · rfl
  · rw [if_neg]
    intro ha
    rw [List.all_eq_true.1 ha _ (List.getElem_mem h)] at hd
    cases hd
theorem numB_good {t : Bs} (h1 : t ≠ []) (h2 : t.length ≤ 4) (h3 : t.head? = some 48 → t.length ≤ 1) (hd : ∀ (k : Nat) (h : k < t.length), digB t[k] = true) : numB t = some (valB t) ∧ valB t < 10000 := by
  have ha : t.all digB = true := List.all_eq_true.2 (fun b hb => by obtain ⟨k, hk, rfl⟩ := List.getElem_of_mem hb; exact hd k hk)
  constructor
  · unfold numB
    rw [if_neg (by rintro (h | h | ⟨h, h'⟩); exact h1 h; omega; have := h3 h; omega), if_pos ha]
  · have a := valB_lt t.length rfl (fun b hb => List.all_eq_true.1 ha b hb)
    have : (10 : Nat) ^ t.length ≤ 10 ^ 4 := Nat.pow_le_pow_right (by omega) h2
    omega
theorem numB_head {t : Bs} (h : t = [] ∨ 4 < t.length ∨ (t.head? = some 48 ∧ 1 < t.length)) : numB t = none := by unfold numB; rw [if_pos h]
end Go.Proofs.YtgokenbojppnhaaDoor
namespace Go.Proofs.YtgokenbojppnhaaDoor
open Go.RowKit
/-- What the reference's number tells. -/
def numM (t : Bs) : Int := match numB t with
  | none => -1
  | some n => n
end Go.Proofs.YtgokenbojppnhaaDoor
