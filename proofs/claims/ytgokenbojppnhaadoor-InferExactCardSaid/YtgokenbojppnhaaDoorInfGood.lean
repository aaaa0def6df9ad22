/- infer.walk: what it yields, what it and the loop over it may do to the memory; laws of inferS. Layer 27, plain laws: what a good definition's layers promise to shapes. No function of the program is named here. -/
import Derived.Test.YtgokenbojppnhaaDoorInfDoes0
import Derived.Test.YtgokenbojppnhaaDoorIterG
import Derived.Test.YtgokenbojppnhaaDoorInfJudge
import Derived.Test.YtgokenbojppnhaaDoorDefMay
namespace Go.Proofs.YtgokenbojppnhaaDoor
open Go.RowKit
/-- What comes at a step: an error's number, the shape behind it, its parameters. -/
structure Ev where
  bad : Int
  out : List Int
  ps : List ParamP
structure EvV where
  k : Int
  cells : Array Value
  ev : Ev
def encEv (x : EvV) : Array Value := #[.int .i64 x.k, .agg x.cells]
def goEv (x : EvV) : Bool := x.ev.bad == 0
/-- What the memory holds of a step that comes. -/
def AtEv (B : Nat) (x : EvV) (w : World) : Prop := ∃ f ba bn bc ia iN ic oa on oc pa pn pc first nm fin,
  x.cells = stepA f (.slice ba bn bc) (.slice ia iN ic) (.slice oa on oc) (.slice pa pn pc) first nm x.ev.bad fin ∧
  (x.ev.bad = 0 → on = x.ev.out.length ∧ RowS B w (.slice oa on oc) x.ev.out ∧ pn = x.ev.ps.length ∧ ParsAt B w (.slice pa pn pc) x.ev.ps)
def parsOf (xs : List EvV) : List ParamP := xs.flatMap (fun x => x.ev.ps)
def lastOut (s : List Int) (xs : List EvV) : List Int := xs.foldl (fun _ x => x.ev.out) s
theorem parsOf_app (xs ys : List EvV) : parsOf (xs ++ ys) = parsOf xs ++ parsOf ys := by simp [parsOf]
theorem lastOut_app (s : List Int) (xs ys : List EvV) : lastOut s (xs ++ ys) = lastOut (lastOut s xs) ys := by simp [lastOut]
/-- Steps that told no error: the shape behind them, their parameters. -/
def EvOk (s x : List Int) (ps : List ParamP) (xs : List EvV) : Prop := (∀ e ∈ xs, e.ev.bad = 0) ∧ lastOut s xs = x ∧ parsOf xs = ps
theorem EvOk.nil (s : List Int) : EvOk s s [] [] := ⟨fun _ h => (by cases h), rfl, rfl⟩
theorem EvOk.app {s x y : List Int} {ps qs : List ParamP} {xs ys : List EvV} (h : EvOk s x ps xs) (k : EvOk x y qs ys) : EvOk s y (ps ++ qs) (xs ++ ys) :=
  ⟨fun e he => (List.mem_append.1 he).elim (h.1 e) (k.1 e), by rw [lastOut_app, h.2.1, k.2.1], by rw [parsOf_app, h.2.2, k.2.2]⟩
/-- What comes may be so: there are not too many parameters. -/
def PreEv (xs : List EvV) : Prop := (parsOf xs).length ≤ 1000
def stepObj (o : Obj) : Prop := ∃ cs fr, o = .cells cs 71 fr
/-- What the iterator may do: its own steps' blocks, and new ones. -/
structure KI (B : Nat) (w w' : World) : Prop where
  os : w'.os = w.os
  tape : w'.tape = w.tape
  output : w'.output = w.output
  size : w.heap.size ≤ w'.heap.size
  block : ∀ (k : Nat) (o : Obj), w.heap[k]? = some o → (k < B ∨ ¬ stepObj o) → w'.heap[k]? = some o
/-- What a round of the loop leaves: what was there ahead of the call, and blocks of ints, of steps, of layers. -/
structure KC (B : Nat) (w w' : World) : Prop where
  size : w.heap.size ≤ w'.heap.size
  old : ∀ (k : Nat) (o : Obj), k < B → w.heap[k]? = some o → w'.heap[k]? = some o
  ints : ∀ (k : Nat) (cs : Array Value) (fr : Nat × Nat), w.heap[k]? = some (.cells cs 3 fr) → w'.heap[k]? = some (.cells cs 3 fr)
  steps : ∀ (k : Nat) (cs : Array Value) (fr : Nat × Nat), w.heap[k]? = some (.cells cs 71 fr) → w'.heap[k]? = some (.cells cs 71 fr)
  lays : ∀ (k : Nat) (cs : Array Value) (fr : Nat × Nat), w.heap[k]? = some (.cells cs 52 fr) → w'.heap[k]? = some (.cells cs 52 fr)
theorem KI.refl (B : Nat) (w : World) : KI B w w := ⟨rfl, rfl, rfl, Nat.le_refl _, fun _ _ h _ => h⟩
theorem KI.trans {B : Nat} {a b c : World} (h : KI B a b) (k : KI B b c) : KI B a c :=
  ⟨k.os.trans h.os, k.tape.trans h.tape, k.output.trans h.output, Nat.le_trans h.size k.size, fun i o e n => k.block i o (h.block i o e n) n⟩
theorem KI.ext {B : Nat} {w w' : World} (x : Ext w w') : KI B w w' :=
  ⟨x.os, x.tape, x.output, x.size, fun k _ e _ => (x.block k (Array.getElem?_eq_some_iff.1 e).1).trans e⟩
theorem KI.gb {B S : Nat} {w w' : World} {cs : Array Value} (g : GB w w' S) (hS : Blk w S 71 cs) (hB : B ≤ S) : KI B w w' :=
  ⟨g.os, g.tape, g.output, g.size, fun k o e n => (g.block k (Array.getElem?_eq_some_iff.1 e).1 (fun e2 => by
    cases e2
    unfold Blk at hS
    rw [hS] at e
    cases e
    rcases n with n | n
    · omega
    · exact n ⟨_, _, rfl⟩)).trans e⟩
theorem KC.refl (B : Nat) (w : World) : KC B w w := ⟨Nat.le_refl _, fun _ _ _ h => h, fun _ _ _ h => h, fun _ _ _ h => h, fun _ _ _ h => h⟩
theorem KC.trans {B : Nat} {a b c : World} (h : KC B a b) (k : KC B b c) : KC B a c :=
  ⟨Nat.le_trans h.size k.size, fun i o hi e => k.old i o hi (h.old i o hi e), fun i cs fr e => k.ints i cs fr (h.ints i cs fr e), fun i cs fr e => k.steps i cs fr (h.steps i cs fr e), fun i cs fr e => k.lays i cs fr (h.lays i cs fr e)⟩
theorem KC.ext {B : Nat} {w w' : World} (x : Ext w w') : KC B w w' :=
  have h : ∀ (k : Nat) (o : Obj), w.heap[k]? = some o → w'.heap[k]? = some o := fun k _ e => (x.block k (Array.getElem?_eq_some_iff.1 e).1).trans e
  ⟨x.size, fun k o _ e => h k o e, fun k _ _ e => h k _ e, fun k _ _ e => h k _ e, fun k _ _ e => h k _ e⟩
/-- A block that was made since may be turned. -/
theorem KC.far {B S : Nat} {w a b : World} (h : KC B w a) (g : GB a b S) (hS : w.heap.size ≤ S) : KC B w b := by
  have key : ∀ (k : Nat) (o : Obj), w.heap[k]? = some o → a.heap[k]? = some o → b.heap[k]? = some o := fun k o e1 e2 => by
    have hk := (Array.getElem?_eq_some_iff.1 e1).1
    exact (g.block k (Array.getElem?_eq_some_iff.1 e2).1 (fun e => by cases e; omega)).trans e2
  exact ⟨Nat.le_trans h.size g.size, fun k o hk e => key k o e (h.old k o hk e), fun k cs fr e => key k _ e (h.ints k cs fr e), fun k cs fr e => key k _ e (h.steps k cs fr e), fun k cs fr e => key k _ e (h.lays k cs fr e)⟩
theorem RowS.kc {B : Nat} {w w' : World} {v : Value} {xs : List Int} (h : RowS B w v xs) (c : KC B w w') : RowS B w' v xs :=
  h.keep (fun k hk hl => by
    have e : w.heap[k]? = some w.heap[k] := Array.getElem?_eq_getElem hl
    rw [c.old k _ hk e, e]) c.ints
theorem LaysAt.kc {B : Nat} {A : Nat → Prop} {w w' : World} {n : Nat} {v : Value} {L : List Lay} (h : LaysAt A w n v L) (c : KC B w w') (hA : ∀ b, A b → b < B) : LaysAt A w' n v L :=
  h.keep (fun _ h => h) (fun b hb hl => by
    have e : w.heap[b]? = some w.heap[b] := Array.getElem?_eq_getElem hl
    rw [c.old b _ (hA b hb) e, e])
theorem Blk.kc {B g : Nat} {w w' : World} {cs : Array Value} (h : Blk w g 71 cs) (c : KC B w w') : Blk w' g 71 cs := c.steps g cs _ h
theorem Blk.kcl {B g : Nat} {w w' : World} {cs : Array Value} (h : Blk w g 52 cs) (c : KC B w w') : Blk w' g 52 cs := c.lays g cs _ h
/-- inferS of layers and one more. -/
theorem inferS_snoc : ∀ (L : List Lay) (l : Lay) (first : Bool) (ah : Bs) (k : Nat) (s : List Int), inferS first ah k s (L ++ [l]) = match inferS first ah k s L with
    | .bad e => .bad e
    | .ok x ps => match l.infer (first && L.isEmpty) (ah ++ Lib.itoa ((k + L.length : Nat) : Int)) x with
      | .bad e => .bad e
      | .ok y qs => .ok y (ps ++ qs)
  | [], l, first, ah, k, s => by
    simp only [List.nil_append, inferS, List.isEmpty_nil, Bool.and_true, List.length_nil, Nat.add_zero]
    cases l.infer first (ah ++ Lib.itoa (k : Int)) s <;> simp
  | a :: L, l, first, ah, k, s => by
    simp only [List.cons_append, inferS, List.isEmpty_cons, Bool.and_false, List.length_cons]
    cases a.infer first (ah ++ Lib.itoa (k : Int)) s with
    | bad e => rfl
    | ok x ps =>
      simp only
      rw [inferS_snoc L l false ah (k + 1) x]
      rw [show k + 1 + L.length = k + (L.length + 1) by omega, Bool.false_and]
      cases inferS false ah (k + 1) x L with
      | bad e => rfl
      | ok y qs =>
        simp only
        cases l.infer false (ah ++ Lib.itoa ((k + (L.length + 1) : Nat) : Int)) y with
        | bad e => rfl
        | ok z rs => simp
/-- An error ahead is the whole's. -/
theorem inferS_bad : ∀ (L M : List Lay) {first : Bool} {ah : Bs} {k : Nat} {s : List Int} {e : Int}, inferS first ah k s L = .bad e → inferS first ah k s (L ++ M) = .bad e
  | [], _, _, _, _, _, _, h => by simp [inferS] at h
  | a :: L, M, first, ah, k, s, e, h => by
    simp only [List.cons_append, inferS] at h ⊢
    cases ha : a.infer first (ah ++ Lib.itoa (k : Int)) s with
    | bad e' => rw [ha] at h; exact h
    | ok x ps =>
      rw [ha] at h
      simp only at h ⊢
      cases hL : inferS false ah (k + 1) x L with
      | bad e' =>
        rw [hL] at h
        rw [inferS_bad L M hL]
        exact h
      | ok y qs => rw [hL] at h; cases h
end Go.Proofs.YtgokenbojppnhaaDoor
namespace Go.Proofs.YtgokenbojppnhaaDoor
theorem kindT_some {x : Int} {k : Nat} (h : kindT x = some k) : x = (k : Int) ∧ k ∈ kindsT := by
  unfold kindT at h
  have h1 := List.find?_some h
  have h2 := List.mem_of_find?_eq_some h
  exact ⟨by simpa [eq_comm] using h1, h2⟩
theorem okF_layOk {k : Nat} {f : LayF} (hk : k ∈ kindsT) (h : okF k f = true) : LayOk f := by
  unfold okF at h
  rw [Bool.and_eq_true] at h
  obtain ⟨h1, h2⟩ := h
  have h2 := of_decide_eq_true h2
  unfold fitsK at h1
  rw [Bool.and_eq_true] at h1
  have hf := fitsFrom_iff.1 h1.2
  simp only [kindsT, List.mem_cons, List.not_mem_nil, or_false] at hk
  rcases hk with rfl | rfl | rfl | rfl | rfl | rfl | rfl | rfl | rfl | rfl | rfl | rfl
  case inr.inl =>
    obtain ⟨n1, e1⟩ : ∃ n, (f.at 1).toNat = n := ⟨_, rfl⟩
    obtain ⟨n2, e2⟩ : ∃ n, (f.at 2).toNat = n := ⟨_, rfl⟩
    obtain ⟨n3, e3⟩ : ∃ n, (f.at 3).toNat = n := ⟨_, rfl⟩
    obtain ⟨n4, e4⟩ : ∃ n, (f.at 4).toNat = n := ⟨_, rfl⟩
    obtain ⟨n5, e5⟩ : ∃ n, (f.at 5).toNat = n := ⟨_, rfl⟩
    have en : nsOf 2 f = [n1, n2, n3, n4, n5] := by simp [nsOf, placesK, e1, e2, e3, e4, e5]
    rw [en] at hf h2
    have a0 := hf 0 (by simp)
    have a1 := hf 1 (by simp)
    have a2 := hf 2 (by simp)
    have a3 := hf 3 (by simp)
    have a4 := hf 4 (by simp)
    simp [lowK, highK] at a0 a1 a2 a3 a4
    have h2 : f = ⟨2, n1, n2, n3, n4, n5, 0, 0⟩ := by rw [h2]; rfl
    clear e1 e2 e3 e4 e5 en hf h1
    subst h2
    exact ⟨fun _ => ⟨⟨by simp; omega, by simp; omega, by simp [strideS]; omega, by simp [strideS]; omega, by simp, by simp; omega⟩, by simp; omega, by simp; omega, by simp; omega, by simp; omega⟩, fun h => by simp at h, fun h => by simp at h⟩
  case inr.inr.inr.inr.inr.inr.inr.inr.inl =>
    obtain ⟨n3, e3⟩ : ∃ n, (f.at 3).toNat = n := ⟨_, rfl⟩
    have en : nsOf 8 f = [n3] := by simp [nsOf, placesK, e3]
    rw [en] at hf h2
    have a0 := hf 0 (by simp)
    simp [lowK, highK] at a0
    have h2 : f = ⟨8, 0, 0, n3, 0, 0, 0, 0⟩ := by rw [h2]; rfl
    clear e3 en hf h1
    subst h2
    exact ⟨fun h => by simp at h, fun _ => ⟨by simp; omega, by simp; omega, by simp [strideS]; omega, by simp [strideS]; omega, by simp, by simp⟩, fun h => by simp at h⟩
  case inr.inr.inr.inr.inr.inr.inr.inr.inr.inl =>
    obtain ⟨n3, e3⟩ : ∃ n, (f.at 3).toNat = n := ⟨_, rfl⟩
    have en : nsOf 9 f = [n3] := by simp [nsOf, placesK, e3]
    rw [en] at hf h2
    have a0 := hf 0 (by simp)
    simp [lowK, highK] at a0
    have h2 : f = ⟨9, 0, 0, n3, 0, 0, 0, 0⟩ := by rw [h2]; rfl
    clear e3 en hf h1
    subst h2
    exact ⟨fun h => by simp at h, fun _ => ⟨by simp; omega, by simp; omega, by simp [strideS]; omega, by simp [strideS]; omega, by simp, by simp⟩, fun h => by simp at h⟩
  case inr.inr.inr.inr.inr.inr.inr.inr.inr.inr.inr =>
    obtain ⟨n1, e1⟩ : ∃ n, (f.at 1).toNat = n := ⟨_, rfl⟩
    obtain ⟨n7, e7⟩ : ∃ n, (f.at 7).toNat = n := ⟨_, rfl⟩
    have en : nsOf 12 f = [n1, n7] := by simp [nsOf, placesK, e1, e7]
    rw [en] at hf h2
    have a0 := hf 0 (by simp)
    have a1 := hf 1 (by simp)
    simp [lowK, highK] at a0 a1
    have h2 : f = ⟨12, n1, 0, 0, 0, 0, 0, n7⟩ := by rw [h2]; rfl
    clear e1 e7 en hf h1
    subst h2
    exact ⟨fun h => by simp at h, fun h => by simp at h, fun _ => ⟨by simp; omega, by simp⟩⟩
  all_goals
    have hkind : f.kind ≠ 2 ∧ f.kind ≠ 8 ∧ f.kind ≠ 9 ∧ f.kind ≠ 12 := by
      clear h1 hf
      revert h2
      generalize hm : nsOf _ f = m
      intro h2
      rw [h2]
      simp only [placesK]
      match m with
      | [] => simp [setAll, LayF.kind0]
      | [a] => simp [setAll, LayF.kind0, LayF.set]
      | a :: b :: _ => simp [setAll, LayF.kind0, LayF.set]
    exact ⟨fun h => absurd h hkind.1, fun h => h.elim (fun h => absurd h hkind.2.1) (fun h => absurd h hkind.2.2.1), fun h => absurd h hkind.2.2.2⟩
/-- A layer that is no residual. -/
theorem good_plain {f : LayF} {b : List Lay} {deep left l' : Nat} (h : (Lay.mk f b).good deep left = some l') (h13 : f.kind ≠ 13) : LayOk f ∧ left = l' + 1 := by
  rw [Lay.good] at h
  split at h
  · cases h
  · cases hk : kindT f.kind with
    | none => rw [hk] at h; cases h
    | some k =>
      rw [hk] at h
      simp only at h
      split at h
      · rename_i h0 h1
        cases h
        exact ⟨okF_layOk (kindT_some hk).2 h1.1, by omega⟩
      · cases h
theorem good_body {f : LayF} {b : List Lay} {deep left l' : Nat} (h : (Lay.mk f b).good deep left = some l') (h13 : f.kind = 13) : deep < 4 ∧ goodS (deep + 1) (left - 1) b = some l' ∧ 1 ≤ left := by
  rw [Lay.good] at h
  split at h
  · cases h
  · split at h
    · rename_i h0 h1
      exact ⟨h1.1, h, by omega⟩
    · cases h
theorem image_len {f : LayF} {s p : List Int} (h : imageS f s = some p) : p.length ≤ 2 := by
  unfold imageS at h
  split at h
  · unfold placesS at h
    split at h
    · cases h; simp; omega
    · cases h
  · cases h
theorem does_len {f : LayF} {s o : List Int} {first : Bool} {nm : Bs} {ps : List ParamP} (h : doesS f s first nm = some (o, ps)) (hs : s.length ≤ 3) : o.length ≤ 1000 ∧ ps.length ≤ 4 := by
  unfold doesS at h
  split at h
  · split at h
    · cases h; simp; omega
    · cases h
  · split at h
    · cases hi : imageS f s with
      | none => rw [hi] at h; cases h
      | some p =>
        rw [hi] at h
        have := image_len hi
        simp only at h
        split at h
        · cases h; simp; omega
        · cases h
    · split at h
      · cases hi : imageS f s with
        | none => rw [hi] at h; cases h
        | some p =>
          rw [hi] at h
          have := image_len hi
          cases h; simp; omega
      · split at h
        · cases h; simp
        · split at h
          · split at h
            · cases h; simp
            · cases h
          · split at h
            · split at h
              · cases h; simp; omega
              · cases h
            · cases h; simp; omega
theorem judge_ok {f : LayF} {s o : List Int} {first : Bool} {nm : Bs} {ps : List ParamP} (h : judgeS f s first nm = .ok o ps) (hs : s.length ≤ 3) : fullS o = true ∧ ps.length ≤ 4 := by
  unfold judgeS at h
  cases hd : doesS f s first nm with
  | none => rw [hd] at h; cases h
  | some q =>
    obtain ⟨o', ps'⟩ := q
    rw [hd] at h
    simp only at h
    split at h
    · rename_i h1
      cases h
      rw [Bool.and_eq_true] at h1
      exact ⟨h1.1, (does_len hd hs).2⟩
    · cases h
theorem judge_bad {f : LayF} {s : List Int} {first : Bool} {nm : Bs} {e : Int} (h : judgeS f s first nm = .bad e) : e ≠ 0 := by
  unfold judgeS at h
  split at h
  · cases h; decide
  · split at h
    · cases h
    · cases h; decide
theorem take_empty {L : List Lay} {k : Nat} (hk : k < L.length) : (L.take k).isEmpty = decide (k = 0) := by
  cases k with
  | zero => simp
  | succ k => cases L with
    | nil => simp at hk
    | cons a l => simp
/-- One layer more. -/
theorem infer_take {L : List Lay} {k : Nat} {first : Bool} {ah : Bs} {s x : List Int} {ps : List ParamP} (hk : k < L.length) (h : inferS first ah 0 s (L.take k) = .ok x ps) :
    inferS first ah 0 s (L.take (k + 1)) = match (L[k]).infer (first && decide (k = 0)) (ah ++ Lib.itoa (k : Int)) x with
      | .bad e => .bad e
      | .ok y qs => .ok y (ps ++ qs) := by
  rw [List.take_succ_eq_append_getElem hk, inferS_snoc, h]
  simp only [take_empty hk, List.length_take, Nat.zero_add, Nat.min_eq_left (Nat.le_of_lt hk)]
  all_goals
    generalize Lay.infer _ _ _ _ = t
    cases t <;> rfl
theorem infer_stop {L : List Lay} {k : Nat} {first : Bool} {ah : Bs} {s x : List Int} {ps : List ParamP} {e : Int} (hk : k < L.length) (h : inferS first ah 0 s (L.take k) = .ok x ps) (hb : (L[k]).infer (first && decide (k = 0)) (ah ++ Lib.itoa (k : Int)) x = .bad e) : inferS first ah 0 s L = .bad e := by
  have h1 := infer_take hk h
  rw [hb] at h1
  have h2 := inferS_bad _ (L.drop (k + 1)) h1
  rwa [List.take_append_drop] at h2
theorem infer_plain {f : LayF} {b : List Lay} {first : Bool} {nm : Bs} {s : List Int} (h13 : f.kind ≠ 13) : (Lay.mk f b).infer first nm s = judgeS f s first nm := by
  rw [Lay.infer, if_neg h13]
theorem infer_body {f : LayF} {b : List Lay} {first : Bool} {nm : Bs} {s : List Int} (h13 : f.kind = 13) : (Lay.mk f b).infer first nm s = match inferS false (nm ++ [46]) 0 s b with
      | .bad e => .bad e
      | .ok x ps => if x = s then .ok s ps else .bad 2 := by
  rw [Lay.infer, if_pos h13]
  all_goals
    generalize inferS _ _ _ _ _ = t
    cases t <;> rfl
end Go.Proofs.YtgokenbojppnhaaDoor
