/- Layer 26, the plain law: fits, made of any numbers. No function of the program is named here. -/
import Derived.Test.YtfimmcnfmipnlaaDoorDefMay
namespace Go.Proofs.YtfimmcnfmipnlaaDoor
open Go.RowKit
/-- Numbers, as a row's values. -/
def intsV (ns : List Int) : List Value := ns.map (Value.int .i64)
theorem intsV_at {w : World} {a : Option Addr} {n c : Nat} {ns : List Int} (h : RowV w (.slice a n c) (intsV ns)) {i : Nat} (hi : i < ns.length) : ∃ g o, a = some ⟨g, o, none⟩ ∧ w.cell? ⟨g, o + i, none⟩ = some (.int .i64 ns[i]) := by
  obtain ⟨a', c', e, -, -, h3⟩ := h
  injection e with e1 _ _
  subst e1
  obtain ⟨g, o, rfl, hc⟩ := h3 (by intro e; have := congrArg List.length e; simp [intsV] at this; subst this; simp at hi)
  exact ⟨g, o, rfl, (hc i (by simpa [intsV] using hi)).trans (by simp [intsV, hi])⟩
def fitsFromI (k : Nat) : Nat → List Int → Bool
  | _, [] => true
  | j, n :: ns => decide (lowK k j ≤ n ∧ n ≤ highK k) && fitsFromI k (j + 1) ns
def fitsI (k : Nat) (ns : List Int) : Bool := decide (ns.length = (placesK k).length) && fitsFromI k 0 ns
def setAllI : LayF → List Nat → List Int → LayF
  | f, p :: ps, n :: ns => setAllI (f.set p n) ps ns
  | f, _, _ => f
theorem fitsFromI_nat (k : Nat) : ∀ (ns : List Nat) (j : Nat), fitsFromI k j (ns.map (fun (n : Nat) => (n : Int))) = fitsFrom k j ns
  | [], j => rfl
  | n :: ns, j => by
    simp only [List.map_cons, fitsFromI, fitsFrom]
    rw [fitsFromI_nat k ns (j + 1)]
theorem setAllI_nat : ∀ (f : LayF) (ps ns : List Nat), setAllI f ps (ns.map (fun (n : Nat) => (n : Int))) = setAll f ps ns
  | f, [], ns => by cases ns <;> rfl
  | f, p :: ps, [] => rfl
  | f, p :: ps, n :: ns => by
    simp only [List.map_cons, setAllI, setAll]
    exact setAllI_nat _ ps ns
theorem set_from0 {f : LayF} (h : ∀ q, 0 ≤ f.at q) {x : Int} (hx : 0 ≤ x) (i q : Nat) : 0 ≤ (f.set i x).at q := by
  have h0 : 0 ≤ f.kind := h 0
  have h1 : 0 ≤ f.inn := h 1
  have h2 : 0 ≤ f.out := h 2
  have h3 : 0 ≤ f.size := h 3
  have h4 : 0 ≤ f.stride := h 4
  have h5 : 0 ≤ f.pad := h 5
  have h6 : 0 ≤ f.percent := h 6
  have h7 : 0 ≤ f.heads := h 7
  unfold LayF.set
  split <;> (unfold LayF.at; split <;> assumption)
theorem setAll_from0 : ∀ (ps ns : List Nat) {f : LayF}, (∀ q, 0 ≤ f.at q) → ∀ q, 0 ≤ (setAll f ps ns).at q
  | [], ns, f, h, q => by cases ns <;> exact h q
  | p :: ps, [], f, h, q => h q
  | p :: ps, n :: ns, f, h, q => by
    rw [setAll]
    exact setAll_from0 ps ns (fun q => set_from0 h (by omega) p q) q
theorem fitsFromI_low {k : Nat} : ∀ {ns : List Int} {j : Nat}, fitsFromI k j ns = true → ∀ n ∈ ns, 0 ≤ n
  | [], _, _, n, h => by simp at h
  | m :: ns, j, h, n, hn => by
    rw [fitsFromI, Bool.and_eq_true, decide_eq_true_eq] at h
    rcases List.mem_cons.1 hn with rfl | hn
    · have := h.1.1
      unfold lowK at this
      split at this <;> omega
    · exact fitsFromI_low h.2 n hn
/-- What the page asks of a layer's numbers is what the program asks. -/
theorem okF_int (k : Nat) (f : LayF) : (fitsI k ((placesK k).map f.at) && decide (setAllI (LayF.kind0 k) (placesK k) ((placesK k).map f.at) = f)) = okF k f := by
  by_cases h : ∀ p ∈ placesK k, 0 ≤ f.at p
  · have e : (placesK k).map f.at = (nsOf k f).map (fun (n : Nat) => (n : Int)) := by
      unfold nsOf
      rw [List.map_map]
      exact List.map_congr_left (fun p hp => by simp only [Function.comp]; have := h p hp; omega)
    rw [e, setAllI_nat]
    unfold okF fitsI fitsK
    rw [fitsFromI_nat, List.length_map]
    congr 1
    exact decide_eq_decide.2 eq_comm
  · have h1 : okF k f = false := by
      cases hk : okF k f with
      | false => rfl
      | true =>
        exfalso
        unfold okF at hk
        rw [Bool.and_eq_true, decide_eq_true_eq] at hk
        apply h
        intro p _
        rw [hk.2]
        refine setAll_from0 _ _ (fun q => ?_) p
        unfold LayF.kind0 LayF.zero LayF.at
        split <;> simp
    rw [h1]
    cases hf : fitsI k ((placesK k).map f.at) with
    | false => rfl
    | true =>
      exfalso
      unfold fitsI at hf
      rw [Bool.and_eq_true] at hf
      exact h (fun p hp => fitsFromI_low hf.2 _ (List.mem_map.2 ⟨p, hp, rfl⟩))
theorem kindT_is {k : Nat} (h1 : 1 ≤ k) (h2 : k ≤ 12) : kindT (k : Int) = some k := by
  have hh : k = 1 ∨ k = 2 ∨ k = 3 ∨ k = 4 ∨ k = 5 ∨ k = 6 ∨ k = 7 ∨ k = 8 ∨ k = 9 ∨ k = 10 ∨ k = 11 ∨ k = 12 := by omega
  rcases hh with rfl | rfl | rfl | rfl | rfl | rfl | rfl | rfl | rfl | rfl | rfl | rfl <;> rfl
theorem kindT_no {x : Int} (h : x < 1 ∨ 13 < x) : kindT x = none := by
  unfold kindT
  rw [List.find?_eq_none]
  intro k hk
  have : 1 ≤ k ∧ k ≤ 12 := by
    have h2 := (show ∀ k ∈ kindsT, 1 ≤ k ∧ k ≤ 12 by decide) k hk
    exact h2
  simp only [decide_eq_true_eq]
  omega
/-- A layer, as the page asks it. -/
theorem okL_kind (f : LayF) (b : List Lay) (deep k : Nat) (h1 : 1 ≤ k) (h2 : k ≤ 13) (hk : f.kind = k) :
    (Lay.mk f b).okL deep = (okF k f && (if k = 13 then decide (deep < 4) && okA (deep + 1) b else b.isEmpty)) := by
  rw [Lay.okL]
  by_cases h : k = 13
  · subst h
    rw [if_pos (by rw [hk]; rfl), if_pos rfl]
    have : okF 13 f = decide (f = LayF.kind0 13) := by
      unfold okF
      show (true && _) = _
      rw [Bool.true_and]
      rfl
    rw [this]
    cases decide (f = LayF.kind0 13) <;> simp
  · rw [if_neg (by rw [hk]; omega), if_neg h, hk, kindT_is h1 (by omega)]
theorem okL_no (f : LayF) (b : List Lay) (deep : Nat) (h : f.kind < 1 ∨ 13 < f.kind) : (Lay.mk f b).okL deep = false := by
  rw [Lay.okL, if_neg (by omega), kindT_no h]
end Go.Proofs.YtfimmcnfmipnlaaDoor
