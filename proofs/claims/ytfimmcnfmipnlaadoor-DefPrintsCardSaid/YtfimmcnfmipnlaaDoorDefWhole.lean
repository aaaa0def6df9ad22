/- (*def.reader).whole: what it reads. -/
import Derived.Test.YtfimmcnfmipnlaaDoorDefBody2
import Derived.Test.YtfimmcnfmipnlaaDoorDefRef
namespace Go.Proofs.YtfimmcnfmipnlaaDoor
open Go.RowKit
/-- What whole reads: a definition, or none; the line at which reading stands. -/
def wholeP (LL : List (List Bs)) : Option DefL × Nat :=
  match LL[0]? with
  | none => (none, 0)
  | some W => if W.length < 2 ∨ 4 < W.length ∨ W.head? ≠ some inputB then (none, 0) else
    match dimsB W.tail with
    | none => (none, 0)
    | some ns => match bodyP LL (LL.length + 1) 0 1 64 [] with
      | (none, i, _) => (none, i)
      | (some L, i, _) => match LL[i]? with
        | none => (none, i)
        | some W' => if lossK W' = 0 then (none, i) else if i + 1 < LL.length then (none, i + 1) else (some ⟨ns.map (fun (n : Nat) => (n : Int)), L, lossK W'⟩, i + 1)
theorem parseP_whole (LL : List (List Bs)) (rest : Bs) : parseP LL rest = match wholeP LL with
    | (none, i) => (none, i)
    | (some d, _) => if rest ≠ [] then (none, LL.length) else (some d, 0) := by
  unfold parseP wholeP
  cases LL[0]? with
  | none => rfl
  | some W =>
    simp only
    split
    · rfl
    · cases dimsB W.tail with
      | none => rfl
      | some ns =>
        simp only
        obtain ⟨⟨o, i, l⟩, hp⟩ : ∃ p, bodyP LL (LL.length + 1) 0 1 64 [] = p := ⟨_, rfl⟩
        rw [hp]
        cases o with
        | none => rfl
        | some L =>
          simp only
          cases LL[i]? with
          | none => rfl
          | some W' =>
            simp only
            split
            · rfl
            · split <;> rfl
/-- A definition in new memory. -/
structure DefNew (base : Nat) (w : World) (v : Value) (d : DefL) : Prop where
  is : ∃ iv lv, v = .agg #[iv, lv, .int .i64 d.loss] ∧ w.ownsRow base 3 1 iv d.input.length (d.input.map (Value.int .i64)) ∧ MyLays (fun b => base ≤ b ∧ b < w.heap.size) w 5 lv d.layers
def zeroDef : Value := .agg #[.slice none 0 0, .slice none 0 0, .int .i64 0]
/-- What whole tells. -/
structure WholeRes (w w' : World) (R : Nat) (v : Value) (LL : List (List Bs)) (res : Option DefL × Nat) (dv : Value) (ok : Bool) : Prop where
  gb : GB w w' R
  rd : ∃ left, ReadAt w' R v LL res.2 left
  no : res.1 = none → ok = false
  yes : ∀ d, res.1 = some d → ok = true ∧ DefNew w.heap.size w' dv d
  sh : ∃ a n c a' n' c' z, dv = .agg #[.slice a n c, .slice a' n' c', .int .i64 z]
theorem losses_any (w : World) : Calls Tryd.prog 21 #[] w fun e w' => e = .returned (.slice (some ⟨w.heap.size, 0, none⟩) 3 3) ∧ w' = w.alloc (.cells #[.string (ba []), .string (ba xentB), .string (ba squareB)] 9) := by
  go_enter Tryd.func21, Tryd.ntmps21
  go_wp2
  go_ret
  exact ⟨rfl, rfl⟩
/-- Dimensions read so far. -/
theorem dimsB_snoc : ∀ {L : List Bs} {x : Bs} {l : List Nat} {n : Nat}, dimsB L = some l → numB x = some n → 1 ≤ n → n ≤ 4096 → dimsB (L ++ [x]) = some (l ++ [n])
  | [], x, l, n, h, e, h1, h2 => by simp [dimsB] at h; subst h; simp [dimsB, e, h1, h2]
  | y :: L, x, l, n, h, e, h1, h2 => by
    simp only [dimsB, List.cons_append] at h ⊢
    cases h3 : numB y with
    | none => rw [h3] at h; simp at h
    | some m =>
      rw [h3] at h
      simp only at h ⊢
      split at h
      · rename_i hm
        rw [if_pos hm]
        cases h4 : dimsB L with
        | none => rw [h4] at h; simp at h
        | some k =>
          rw [h4] at h
          simp at h
          subst h
          rw [dimsB_snoc h4 e h1 h2]
          rfl
      · simp at h
theorem dimsB_bad : ∀ {L : List Bs} {x : Bs}, x ∈ L → (∀ n, numB x = some n → ¬ (1 ≤ n ∧ n ≤ 4096)) → dimsB L = none
  | y :: L, x, h, hb => by
    simp only [dimsB]
    rcases List.mem_cons.1 h with rfl | h
    · cases h1 : numB x with
      | none => rfl
      | some n => simp only; rw [if_neg (hb n h1)]
    · cases h1 : numB y with
      | none => rfl
      | some n =>
        simp only
        split
        · rw [dimsB_bad h hb]
        · rfl
theorem take_snoc' {α : Type} {s : List α} {i : Nat} (h : i < s.length) : s.take (i + 1) = s.take i ++ [s[i]] := by rw [List.take_add_one, List.getElem?_eq_getElem h]; rfl
theorem own_form0 {w : World} {base : Nat} {e : TypeId} {size : Nat} {v : Value} {n : Nat} {xs : List Value} (h : w.ownsRow base e size v n xs) : ∃ a c, v = .slice a n c := by
  rcases h.2 with ⟨rfl, rfl⟩ | ⟨g, cap, _, rfl, _⟩
  · exact ⟨none, 0, rfl⟩
  · exact ⟨_, _, rfl⟩
theorem int_info : (Tryd.prog.info? 3).map (fun i => (i.zero, i.size, i.bytes)) = some (some (.int .i64 0), 1, 8) := by kernel_rfl
theorem GB.far {w W : World} {R b o : Nat} {u : Value} (h : GB w W R) (hb : w.heap.size ≤ b) : GB w (W.setCell ⟨b, o, none⟩ u) R :=
  ⟨h.os, h.tape, h.output, Nat.le_trans h.size (KeepsWalks.setCell W _ u).size, fun i hi hne => (Below.heap_setCell W _ u i (fun e => by have : i = b := e; omega)).trans (h.block i hi hne)⟩
/-- The loss, when the first j names have been looked at. -/
def lossTo (y : Bs) (j : Nat) : Int := if 2 ≤ j ∧ y = xentB then 1 else if 3 ≤ j ∧ y = squareB then 2 else 0
theorem two_of {α : Type} {L : List α} (h : L.length = 2) : ∃ p y, L = [p, y] := by
  match L, h with
  | [p, y], _ => exact ⟨p, y, rfl⟩
theorem lossTo_all (y : Bs) : lossK [lossB, y] = lossTo y 3 := by simp [lossK, lossTo]
theorem lossK_bad {W : List Bs} (h : ¬ ∃ y, W = [lossB, y]) : lossK W = 0 := by
  unfold lossK
  rw [if_neg (fun e => h ⟨_, e⟩), if_neg (fun e => h ⟨_, e⟩)]
theorem lossTo_1 (y : Bs) : lossTo y 0 = lossTo y 1 := by simp [lossTo]
theorem lossTo_2 {y : Bs} (h : y ≠ xentB) : lossTo y 1 = lossTo y 2 := by simp [lossTo, h]
theorem lossTo_2x : lossTo xentB 2 = 1 := by simp [lossTo]
theorem lossTo_3 {y : Bs} (h : y ≠ squareB) : lossTo y 2 = lossTo y 3 := by simp [lossTo, h]
theorem lossTo_3s : lossTo squareB 3 = 2 := by decide
theorem GB.farther {w V W : World} {R b : Nat} (h : GB w V R) (g : GB V W b) (hb : w.heap.size ≤ b) : GB w W R :=
  ⟨g.os.trans h.os, g.tape.trans h.tape, g.output.trans h.output, Nat.le_trans h.size g.size, fun i hi hne => (g.block i (Nat.lt_of_lt_of_le hi h.size) (fun e => by have := Option.some.inj e; omega)).trans (h.block i hi hne)⟩
set_option maxHeartbeats 8000000 in
set_option maxRecDepth 100000 in
theorem dwhole_any {R : Nat} {v : Value} {LL : List (List Bs)} {w : World} (h : ReadAt w R v LL 0 64) (hl : LL.length ≤ 100000) (hw : ∀ L ∈ LL, ∀ x ∈ L, x.length ≤ 100000) :
    Calls Tryd.prog 38 #[.pointer (some ⟨R, 0, none⟩)] w fun e w' => ∃ dv ok, e = .returned (.tuple #[dv, .bool ok]) ∧ WholeRes w w' R v LL (wholeP LL) dv ok := by
  obtain ⟨i0, hi0, hz0, hz1, hz2⟩ := info_parts int_info
  have LI := Lib.hid h.lines
  have RD := Lib.hid h
  have zR := h.cells.2.2.2.2.2
  have HW := Lib.hid hw
  have MO := Lib.hid (fun u (x : Ext w u) => more_any (RD.out.ext x))
  obtain ⟨T, hT⟩ : ∃ T, wholeP LL = T := ⟨_, rfl⟩
  rw [hT]
  unfold wholeP at hT
  obtain ⟨la, lc, rfl, -, -, lr⟩ := LI.out
  have c0 : w.cell? ⟨R, 0, none⟩ = some (.slice la LL.length lc) := h.blk.cell 0
  have LR := Lib.hid lr
  clear h hw lr
  cases hL0 : LL[0]? with
  | none =>
    have hLn : LL = [] := by cases LL with | nil => rfl | cons a b => simp at hL0
    rw [hL0] at hT
    have TE : T = (none, 0) := hT.symm
    subst TE
    have dm : decide (0 < LL.length) = false := by rw [hLn]; rfl
    rw [dm] at MO
    clear hT hL0 hLn
    go_enter Tryd.func38, Tryd.ntmps38
    go_wp2_with fail; refine (MO.out _ (by repeat (first | with_reducible exact Ext.refl _ | with_reducible apply Ext.drew | with_reducible apply Ext.drewN | with_reducible apply Ext.alloc | ((with_reducible refine Ext.setCell ?_ ?_ _); rotate_left; focus (first | (simp; done) | (simp; omega) | omega)) | with_reducible refine Ext.tr ?_ x1 | with_reducible refine Ext.tr ?_ x3 | with_reducible refine Ext.tr ?_ x7 | with_reducible refine Ext.tr ?_ hx | with_reducible assumption))).mono ?_; rintro e v1 ⟨rfl, x1⟩; obtain ⟨c1, f1⟩ := x1.rules; have z1 := x1.size; have k1_0_0 := c1 (w.heap.size) 0 (by first | (simp; done) | (simp; omega) | omega); have q1_0_0 := f1 (w.heap.size) 0 (by first | (simp; done) | (simp; omega) | omega); have k1_0_1 := c1 (w.heap.size) 1 (by first | (simp; done) | (simp; omega) | omega); have q1_0_1 := f1 (w.heap.size) 1 (by first | (simp; done) | (simp; omega) | omega); have k1_0_2 := c1 (w.heap.size) 2 (by first | (simp; done) | (simp; omega) | omega); have q1_0_2 := f1 (w.heap.size) 2 (by first | (simp; done) | (simp; omega) | omega); have z1_0 : w.heap.size < v1.heap.size := (by (try simp at z1); omega); (try simp at z1); clear c1 f1; simp [go_sem, *] at k1_0_0 q1_0_0 k1_0_1 q1_0_1 k1_0_2 q1_0_2
    go_wp2_with fail
    (try rw [Exit.noGoto_ret])
    change bodyPost _ _ _ _ _ _
    simp [bodyPost, results, Tryd.results38, go_sem, *]
    exact ⟨(GB.refl w R).ext (by repeat (first | with_reducible exact Ext.refl _ | with_reducible apply Ext.drew | with_reducible apply Ext.drewN | with_reducible apply Ext.alloc | ((with_reducible refine Ext.setCell ?_ ?_ _); rotate_left; focus (first | (simp; done) | (simp; omega) | omega)) | with_reducible refine Ext.tr ?_ x1 | with_reducible refine Ext.tr ?_ x3 | with_reducible refine Ext.tr ?_ x7 | with_reducible refine Ext.tr ?_ hx | with_reducible assumption)), ⟨64, RD.out.ext (by repeat (first | with_reducible exact Ext.refl _ | with_reducible apply Ext.drew | with_reducible apply Ext.drewN | with_reducible apply Ext.alloc | ((with_reducible refine Ext.setCell ?_ ?_ _); rotate_left; focus (first | (simp; done) | (simp; omega) | omega)) | with_reducible refine Ext.tr ?_ x1 | with_reducible refine Ext.tr ?_ x3 | with_reducible refine Ext.tr ?_ x7 | with_reducible refine Ext.tr ?_ hx | with_reducible assumption))⟩, fun _ => rfl, fun d h => (by cases h), ⟨_, _, _, _, _, _, _, rfl⟩⟩
  | some W0 =>
    have hlt : 0 < LL.length := (List.getElem?_eq_some_iff.1 hL0).1
    have dm : decide (0 < LL.length) = true := decide_eq_true hlt
    rw [dm] at MO
    rw [hL0] at hT
    have HT := Lib.hid hT
    obtain ⟨b1, o1, rfl, hb1, hc1⟩ := LR.out (fun e => by rw [e] at hlt; simp at hlt)
    obtain ⟨a2, c2, f1, f2, f3⟩ := hc1 0 hlt
    have e0 : LL[0] = W0 := Option.some.inj ((List.getElem?_eq_getElem hlt).symm.trans hL0)
    rw [e0] at f1 f2
    rw [Nat.add_zero] at f1
    have WS := Lib.hid (HW.out W0 (by rw [← e0]; exact List.getElem_mem hlt))
    have zf := cell_lt f1
    simp only at zf
    have F2 := Lib.hid f2
    have F3 := Lib.hid f3
    have hlz : (0 : Int) < (LL.length : Int) := by omega
    clear hT hc1 f2 f3 dm e0 hL0
    have BN := Lib.hid ((Blk.new w 26 #[.slice none 0 0, .slice none 0 0, .int .i64 0]))
    go_enter Tryd.func38, Tryd.ntmps38
    go_wp2_with fail; refine (MO.out _ (by repeat (first | with_reducible exact Ext.refl _ | with_reducible apply Ext.drew | with_reducible apply Ext.drewN | with_reducible apply Ext.alloc | ((with_reducible refine Ext.setCell ?_ ?_ _); rotate_left; focus (first | (simp; done) | (simp; omega) | omega)) | with_reducible refine Ext.tr ?_ x1 | with_reducible refine Ext.tr ?_ x3 | with_reducible refine Ext.tr ?_ x7 | with_reducible refine Ext.tr ?_ hx | with_reducible assumption))).mono ?_; rintro e v1 ⟨rfl, x1⟩; obtain ⟨c1, f1⟩ := x1.rules; have z1 := x1.size; have k1_0_0 := c1 (w.heap.size) 0 (by first | (simp; done) | (simp; omega) | omega); have q1_0_0 := f1 (w.heap.size) 0 (by first | (simp; done) | (simp; omega) | omega); have k1_0_1 := c1 (w.heap.size) 1 (by first | (simp; done) | (simp; omega) | omega); have q1_0_1 := f1 (w.heap.size) 1 (by first | (simp; done) | (simp; omega) | omega); have k1_0_2 := c1 (w.heap.size) 2 (by first | (simp; done) | (simp; omega) | omega); have q1_0_2 := f1 (w.heap.size) 2 (by first | (simp; done) | (simp; omega) | omega); have z1_0 : w.heap.size < v1.heap.size := (by (try simp at z1); omega); (try simp at z1); clear c1 f1; simp [go_sem, *] at k1_0_0 q1_0_0 k1_0_1 q1_0_1 k1_0_2 q1_0_2
    have BD := Lib.hid (BN.out.ext x1)
    have xw : Ext w v1 := (by repeat (first | with_reducible exact Ext.refl _ | with_reducible apply Ext.drew | with_reducible apply Ext.drewN | with_reducible apply Ext.alloc | ((with_reducible refine Ext.setCell ?_ ?_ _); rotate_left; focus (first | (simp; done) | (simp; omega) | omega)) | with_reducible refine Ext.tr ?_ x1 | with_reducible refine Ext.tr ?_ x3 | with_reducible refine Ext.tr ?_ x7 | with_reducible refine Ext.tr ?_ hx | with_reducible assumption))
    have kc0 := xw.cell c0
    have kf1 := xw.cell f1
    have XW := Lib.hid xw
    clear c0 f1 BN xw
    by_cases h2 : W0.length < 2
    · have TE : T = (none, 0) := by have := HT.out; rw [if_pos (.inl h2)] at this; exact this.symm
      subst TE
      have hz : (W0.length : Int) < 2 := by omega
      clear HT
      go_wp2_with fail
      (try rw [Exit.noGoto_ret])
      change bodyPost _ _ _ _ _ _
      simp [bodyPost, results, Tryd.results38, go_sem, *]
      exact ⟨(GB.refl w R).ext (by repeat (first | with_reducible exact Ext.refl _ | with_reducible apply Ext.drew | with_reducible apply Ext.drewN | with_reducible apply Ext.alloc | ((with_reducible refine Ext.setCell ?_ ?_ _); rotate_left; focus (first | (simp; done) | (simp; omega) | omega)) | with_reducible refine Ext.tr ?_ x1 | with_reducible refine Ext.tr ?_ x3 | with_reducible refine Ext.tr ?_ x7 | with_reducible refine Ext.tr ?_ hx | with_reducible assumption)), ⟨64, RD.out.ext (by repeat (first | with_reducible exact Ext.refl _ | with_reducible apply Ext.drew | with_reducible apply Ext.drewN | with_reducible apply Ext.alloc | ((with_reducible refine Ext.setCell ?_ ?_ _); rotate_left; focus (first | (simp; done) | (simp; omega) | omega)) | with_reducible refine Ext.tr ?_ x1 | with_reducible refine Ext.tr ?_ x3 | with_reducible refine Ext.tr ?_ x7 | with_reducible refine Ext.tr ?_ hx | with_reducible assumption))⟩, fun _ => rfl, fun d h => (by cases h), ⟨_, _, _, _, _, _, _, rfl⟩⟩
    · by_cases h4 : 4 < W0.length
      · have TE : T = (none, 0) := by have := HT.out; rw [if_pos (.inr (.inl h4))] at this; exact this.symm
        subst TE
        have hz : ¬ (W0.length : Int) < 2 := by omega
        have hz4 : (4 : Int) < (W0.length : Int) := by omega
        clear HT
        go_wp2_with fail
        (try rw [Exit.noGoto_ret])
        change bodyPost _ _ _ _ _ _
        simp [bodyPost, results, Tryd.results38, go_sem, *]
        exact ⟨(GB.refl w R).ext (by repeat (first | with_reducible exact Ext.refl _ | with_reducible apply Ext.drew | with_reducible apply Ext.drewN | with_reducible apply Ext.alloc | ((with_reducible refine Ext.setCell ?_ ?_ _); rotate_left; focus (first | (simp; done) | (simp; omega) | omega)) | with_reducible refine Ext.tr ?_ x1 | with_reducible refine Ext.tr ?_ x3 | with_reducible refine Ext.tr ?_ x7 | with_reducible refine Ext.tr ?_ hx | with_reducible assumption)), ⟨64, RD.out.ext (by repeat (first | with_reducible exact Ext.refl _ | with_reducible apply Ext.drew | with_reducible apply Ext.drewN | with_reducible apply Ext.alloc | ((with_reducible refine Ext.setCell ?_ ?_ _); rotate_left; focus (first | (simp; done) | (simp; omega) | omega)) | with_reducible refine Ext.tr ?_ x1 | with_reducible refine Ext.tr ?_ x3 | with_reducible refine Ext.tr ?_ x7 | with_reducible refine Ext.tr ?_ hx | with_reducible assumption))⟩, fun _ => rfl, fun d h => (by cases h), ⟨_, _, _, _, _, _, _, rfl⟩⟩
      · have hz : ¬ (W0.length : Int) < 2 := by omega
        have hz4 : ¬ (4 : Int) < (W0.length : Int) := by omega
        cases W0 with
        | nil => exact absurd (by simp) h2
        | cons x ws =>
          obtain ⟨a', c', e', h1', h2', h3⟩ := F2.out
          injection e' with e1 e2 e3
          subst e1
          subst e3
          rw [strs_len] at h1'
          have hwc : ((ws.length + 1 : Nat) : Int) ≤ (c2 : Int) := by simp at h1'; omega
          obtain ⟨b2, o2, rfl, hc2⟩ := h3 (by simp [strs])
          have g0 : v1.cell? ⟨b2, o2, none⟩ = some (.string (ba x)) := XW.out.cell (hc2 0 (by simp [strs]))
          have GC := Lib.hid (fun i (hi : i < ws.length) => show w.cell? ⟨b2, o2 + 1 + i, none⟩ = some (.string (ba ws[i])) from (by rw [show o2 + 1 + i = o2 + (i + 1) by omega]; exact (hc2 (i + 1) (by simp [strs]; omega)).trans (by simp [strs, hi])))
          have zg := cell_lt g0
          simp only at zg
          obtain ⟨S, hS, -, -, -, LS⟩ := str_of x
          rw [hS] at g0
          clear hc2 h3 hS e2 F2
          by_cases hx : x = inputB
          · have e1 : (S.toList == [105, 110, 112, 117, 116]) = true := by rw [LS.out, hx]; decide
            have HT3 := Lib.hid (show (match dimsB ws with
              | none => (none, 0)
              | some ns => match bodyP LL (LL.length + 1) 0 1 64 [] with
                | (none, i, _) => (none, i)
                | (some L, i, _) => match LL[i]? with
                  | none => (none, i)
                  | some W' => if lossK W' = 0 then (none, i) else if i + 1 < LL.length then (none, i + 1) else (some ⟨ns.map (fun (n : Nat) => (n : Int)), L, lossK W'⟩, i + 1)) = T by
                have := HT.out; rw [if_neg (by rw [hx]; simp only [List.head?_cons]; rintro (h | h | h); exact h2 h; exact h4 h; exact h rfl)] at this; exact this)
            clear HT hx
            go_wp2_with fail
            have GBW := Lib.hid (fun u (x : Ext v1 u) => (GB.refl w R).ext (XW.out.tr x))
            have zD : w.heap.size < v1.heap.size := BD.out.lt
            go_loopw [5, 6, 7, 55] (fun _s _n _f c wr => ∃ (i : Nat) (acc : List Nat) (iv : Value), i ≤ ws.length ∧ c = .int .i64 i ∧ dimsB (ws.take i) = some acc ∧ acc.length = i ∧ Blk wr w.heap.size 26 #[iv, .slice none 0 0, .int .i64 0] ∧ wr.ownsRow (w.heap.size + 1) 3 1 iv i (acc.map (fun (n : Nat) => Value.int .i64 (n : Int))) ∧ Ext w wr) (fun _ _ _ c _ => ws.length - (intOf c).toNat)
            case atStart => exact ⟨0, [], .slice none 0 0, Nat.zero_le _, rfl, rfl, rfl, BD.out, World.ownsRow_nil _ _ _ _, XW.out⟩
            case round =>
              obtain ⟨i, acc, iv, hi, rfl, hd, hal, hbd, hown, hx⟩ := hrel
              obtain ⟨ia, ic, rfl⟩ := own_form0 hown
              have d0 : wr.cell? ⟨w.heap.size, 0, none⟩ = some (.slice ia i ic) := hbd.cell 0
              have d1 : wr.cell? ⟨w.heap.size, 1, none⟩ = some (.slice none 0 0) := hbd.cell 1
              have d2 : wr.cell? ⟨w.heap.size, 2, none⟩ = some (.int .i64 0) := hbd.cell 2
              have q0 := hbd.frozen 0
              have q1 := hbd.frozen 1
              have q2 := hbd.frozen 2
              have zD' := hbd.lt
              have zR' : R < wr.heap.size := by have := hx.size; omega
              have HX := Lib.hid hx
              have HBD := Lib.hid hbd
              have OWN := Lib.hid hown
              rcases Nat.lt_or_ge i ws.length with hlt' | hge'
              · have gi := hx.cell (GC.out i hlt')
                have zi := cell_lt gi
                simp only at zi
                have hiz : (i : Int) < (ws.length : Int) := by omega
                have NB := Lib.hid (number_any ws[i] 1 4096 wr (WS.out _ (by simp)))
                have NC := Lib.hid (numR_cases ws[i] 1 4096)
                have MEM := Lib.hid (show ws[i] ∈ ws from List.getElem_mem hlt')
                have TK := Lib.hid (take_snoc' hlt')
                have HD := Lib.hid hd
                generalize ws[i] = y at *
                clear hx hbd hown hd
                obtain ⟨Y, hY⟩ : ∃ Y, ba y = Y := ⟨_, rfl⟩
                rw [hY] at gi NB
                obtain ⟨nr, hnr⟩ : ∃ nr, numR y 1 4096 = nr := ⟨_, rfl⟩
                rw [hnr] at NB NC
                obtain ⟨n0, ok0⟩ := nr
                simp only at NB NC
                clear hY
                go_wp2_with fail
                refine NB.out.mono ?_
                rintro e' w2 ⟨rfl, rfl⟩
                clear NB
                rcases NC.out with ⟨m, e1', e2', e3', e4'⟩ | ⟨e1', e2'⟩
                · cases e4'
                  have hn2 : i + 1 ≤ maxLen := by unfold maxLen; omega
                  have hn3 : (i + 1) * 8 ≤ 140737488355328 := by omega
                  have hlo : ∀ q, (Value.slice ia i ic).ownBlock = some q → w.heap.size + 1 ≤ q := fun q hq => (OWN.out.lt q hq).1
                  have HD2 := Lib.hid (show dimsB (ws.take (i + 1)) = some (acc ++ [m]) by rw [TK.out]; exact dimsB_snoc HD.out e1' (by omega) (by omega))
                  clear NC TK MEM HD e1' e2' e3'
                  go_wp2_with (at_builtin; refine (show Hid _ from ?_).out)
                  refine Lib.hid ?_
                  refine wpList_append_own _ rfl _ _ 23 rfl (w.heap.size + 1) 3 i0 _ 1 8 Tryd.underlying23 hi0 hz0 hz1 hz2 rfl (by decide) _ _ _ rfl (OWN.out.alloc _) ⟨wr.heap.size, 0, none⟩ 1 1 [.int .i64 m] rfl rfl (newsC_1 _ _ _) (by simp [Value.oneCell']) hn2 hn3 (by simp; omega) ?_
                  intro v' w3 hown1 hgrow _
                  obtain ⟨va, vc, rfl⟩ := own_form0 hown1
                  have B3 := ((HBD.out.alloc (.cells #[.int .i64 m] 3)).grown hgrow (fun e => by have := hlo _ e.symm; omega))
                  have X3 := Lib.hid (Ext.grown (HX.out.alloc (.cells #[.int .i64 m] 3)) hgrow (fun q hq => by have := hlo q hq; omega))
                  have k0' : w3.cell? ⟨w.heap.size, 0, none⟩ = some (.slice ia i ic) := B3.cell 0
                  have kq0' := B3.frozen 0
                  have z3 := B3.lt
                  have hne : (Value.slice va (i + 1) vc).ownBlock ≠ some w.heap.size := fun e => by have := (hown1.lt _ e).1; omega
                  have O3 := Lib.hid hown1
                  have B4 := Lib.hid (show Blk (w3.setCell ⟨w.heap.size, 0, none⟩ (.slice va (i + 1) vc)) w.heap.size 26 #[.slice va (i + 1) vc, .slice none 0 0, .int .i64 0] from B3.set_ 0 _)
                  have X4 := Lib.hid (X3.out.setCell (p := ⟨w.heap.size, 0, none⟩) (Nat.le_refl _) (.slice va (i + 1) vc))
                  clear d0 d1 d2 q0 q1 q2 gi hown1 hgrow B3 OWN HBD
                  go_wp2_with fail
                  have O4 := Lib.hid (O3.out.kept ((GB.refl w3 w.heap.size).set 0 (.slice va (i + 1) vc)) (.inr hne))
                  exact ⟨⟨i + 1, acc ++ [m], .slice va (i + 1) vc, by omega, by go_num, HD2.out, by simp [hal], B4.out, by rw [List.map_append]; exact O4.out, X4.out⟩, by simp [intOf]; omega⟩
                · subst e2'
                  have TE : T = (none, 0) := by have := HT3.out; rw [dimsB_bad MEM.out (fun n hn => by have := e1' n hn; omega)] at this; exact this.symm
                  subst TE
                  clear HT3
                  have hx := HX.out
                  go_wp2_with fail
                  (try rw [Exit.noGoto_ret])
                  change bodyPost _ _ _ _ _ _
                  simp [bodyPost, results, Tryd.results38, go_sem, *]
                  exact ⟨(GB.refl w R).ext (by repeat (first | with_reducible exact Ext.refl _ | with_reducible apply Ext.drew | with_reducible apply Ext.drewN | with_reducible apply Ext.alloc | ((with_reducible refine Ext.setCell ?_ ?_ _); rotate_left; focus (first | (simp; done) | (simp; omega) | omega)) | with_reducible refine Ext.tr ?_ x1 | with_reducible refine Ext.tr ?_ x3 | with_reducible refine Ext.tr ?_ x7 | with_reducible refine Ext.tr ?_ hx | with_reducible assumption)), ⟨64, RD.out.ext (by repeat (first | with_reducible exact Ext.refl _ | with_reducible apply Ext.drew | with_reducible apply Ext.drewN | with_reducible apply Ext.alloc | ((with_reducible refine Ext.setCell ?_ ?_ _); rotate_left; focus (first | (simp; done) | (simp; omega) | omega)) | with_reducible refine Ext.tr ?_ x1 | with_reducible refine Ext.tr ?_ x3 | with_reducible refine Ext.tr ?_ x7 | with_reducible refine Ext.tr ?_ hx | with_reducible assumption))⟩, fun _ => rfl, fun d h => (by cases h), ⟨_, _, _, _, _, _, _, rfl⟩⟩
              · have hie : i = ws.length := by omega
                subst hie
                have ACCL := Lib.hid hal
                have HD : Hid (dimsB ws = some acc) := Lib.hid (by rw [List.take_length] at hd; exact hd)
                have hiz : ¬ (ws.length : Int) < (ws.length : Int) := by omega
                have k1 : wr.cell? ⟨R, 1, none⟩ = some (.int .i64 0) := (RD.out.ext hx).cells.2.1
                have kq1 := (RD.out.ext hx).cells.2.2.2.1
                have RD1 := Lib.hid ((RD.out.ext hx).at 1)
                have gb1 := (GB.refl wr R).set 1 (.int .i64 ((1 : Nat) : Int))
                have HR1 := Lib.hid (hbd.gb gb1 (by omega))
                have OW1 := Lib.hid (hown.kept gb1 (.inr (fun e => by have := (hown.lt _ e).1; omega)))
                have G1 := Lib.hid (((GB.refl w R).ext hx).trans gb1)
                have BO := Lib.hid (body_any 4 0 rfl RD1.out hl HW.out (by omega) (by omega) (LL.length + 1) (by omega))
                clear hd hbd hown hx GC WS GBW
                go_wp2_with fail
                refine BO.out.mono ?_
                rintro e' w2 ⟨lv, ok, rfl, res⟩
                obtain ⟨⟨ro, i2, l2⟩, hp⟩ : ∃ p, bodyP LL (LL.length + 1) 0 1 64 [] = p := ⟨_, rfl⟩
                have bat := bodyP_at LL (LL.length + 1) 0 1 64 []
                have HT4 := HT3.out
                rw [HD.out] at HT4
                simp only at HT4
                rw [hp] at res HT4 bat
                obtain ⟨rgb, rrd, rno, ryes⟩ := res
                simp only at rrd rno ryes bat
                have hi2 : i2 ≤ LL.length := bat.2.2 (by omega)
                have bd2 : Blk w2 w.heap.size 26 #[.slice ia ws.length ic, .slice none 0 0, .int .i64 0] := HR1.out.gb rgb (by omega)
                have d0 : w2.cell? ⟨w.heap.size, 0, none⟩ = some (.slice ia ws.length ic) := bd2.cell 0
                have d1 : w2.cell? ⟨w.heap.size, 1, none⟩ = some (.slice none 0 0) := bd2.cell 1
                have d2 : w2.cell? ⟨w.heap.size, 2, none⟩ = some (.int .i64 0) := bd2.cell 2
                have q0 := bd2.frozen 0
                have q1 := bd2.frozen 1
                have q2 := bd2.frozen 2
                have zD2 := bd2.lt
                have ow2 := OW1.out.kept rgb (.inr (fun e => by have := (OW1.out.lt _ e).1; omega))
                have OW2 := Lib.hid (show w2.ownsRow (w.heap.size + 1) 3 1 (.slice ia ws.length ic) ws.length (acc.map (fun (n : Nat) => Value.int .i64 (n : Int))) from ow2)
                have BD2 := Lib.hid bd2
                have G2 := Lib.hid (G1.out.trans rgb)
                have RB2 := Lib.hid rrd.blk
                have zR2 := rrd.blk.lt
                have zw1 := G1.out.size
                clear bd2 ow2 G1 OW1 HR1 BO RD1 HT3 HD HBD OWN k1 kq1 hp
                cases ro with
                | none =>
                  obtain ⟨rfl, rfl⟩ := rno rfl
                  have TE : T = (none, i2) := HT4.symm
                  subst TE
                  have RD2 := Lib.hid rrd
                  clear HT4 rno ryes rrd rgb
                  go_wp2_with fail
                  (try rw [Exit.noGoto_ret])
                  change bodyPost _ _ _ _ _ _
                  simp [bodyPost, results, Tryd.results38, go_sem, *]
                  have G4 := Lib.hid (((((G2.out.far (o := 1) (u := .slice none 0 0) (Nat.le_refl _)).far (o := 0) (u := .slice none 0 0) (Nat.le_refl _)).far (o := 1) (u := .slice none 0 0) (Nat.le_refl _)).far (o := 2) (u := .int .i64 0) (Nat.le_refl _)))
                  exact ⟨G4.out, ⟨l2, (((RB2.out.far (show R ≠ w.heap.size by omega) _).far (show R ≠ w.heap.size by omega) _).far (show R ≠ w.heap.size by omega) _).far (show R ≠ w.heap.size by omega) _, LI.out.gb G4.out⟩, fun _ => rfl, fun d h => (by cases h), ⟨_, _, _, _, _, _, _, rfl⟩⟩
                | some L =>
                  obtain ⟨rfl, ly⟩ := ryes L rfl
                  simp only at HT4
                  obtain ⟨ya, yc, rfl⟩ := ly.form
                  have LY := Lib.hid ly
                  obtain ⟨w3, hw3⟩ : ∃ w3, w2.setCell ⟨w.heap.size, 1, none⟩ (.slice ya L.length yc) = w3 := ⟨_, rfl⟩
                  have G3 := Lib.hid (show GB w w3 R by rw [← hw3]; exact G2.out.far (Nat.le_refl _))
                  have RB3 := Lib.hid (show Blk w3 R 71 #[.slice (some ⟨b1, o1, none⟩) LL.length lc, .int .i64 i2, .int .i64 l2] by rw [← hw3]; exact RB2.out.far (show R ≠ w.heap.size by omega) _)
                  have BD3 := Lib.hid (show Blk w3 w.heap.size 26 #[.slice ia ws.length ic, .slice ya L.length yc, .int .i64 0] by rw [← hw3]; exact BD2.out.set_ 1 _)
                  have RD3 := Lib.hid (show ReadAt w3 R (.slice (some ⟨b1, o1, none⟩) LL.length lc) LL i2 l2 from ⟨RB3.out, LI.out.gb G3.out⟩)
                  have OW3 := Lib.hid (show w3.ownsRow (w.heap.size + 1) 3 1 (.slice ia ws.length ic) ws.length (acc.map (fun (n : Nat) => Value.int .i64 (n : Int))) by rw [← hw3]; exact OW2.out.kept ((GB.refl w2 w.heap.size).set 1 _) (.inr (fun e => by have := (OW2.out.lt _ e).1; omega)))
                  have LY3 := Lib.hid (show MyLays (fun b => w.heap.size + 1 ≤ b ∧ b < w3.heap.size) w3 5 (.slice ya L.length yc) L by
                    rw [← hw3]
                    have g := (GB.refl w2 w.heap.size).set 1 (.slice ya L.length yc)
                    have zw2 := zD
                    exact LY.out.keep (fun b hb => ⟨by have := hb.1; simp at this; omega, Nat.lt_of_lt_of_le hb.2 g.size⟩) (fun b hb hlt => g.block b hlt (fun e => by have h1 := hb.1; have e1 := Option.some.inj e; simp at h1; omega)))
                  have MO3 := Lib.hid (fun u (x : Ext w3 u) => more_any (RD3.out.ext x))
                  clear rno ryes rrd rgb ly LY G2 RB2 BD2 OW2
                  have sz3 : w.heap.size < w3.heap.size := BD3.out.lt
                  rcases Nat.lt_or_ge i2 LL.length with hlt2 | hge2
                  · have dm2 : decide (i2 < LL.length) = true := decide_eq_true hlt2
                    rw [dm2] at MO3
                    obtain ⟨a5, c5, e5, -, -, h5⟩ := LI.out
                    injection e5 with e51 _ e53
                    obtain ⟨b5, o5, e6, -, hc5⟩ := h5 (fun e => by rw [e] at hlt2; simp at hlt2)
                    rw [e6] at e51
                    injection e51 with e51
                    injection e51 with e52 e54 _
                    obtain ⟨a6, c6, f5, f6, f7⟩ := hc5 i2 hlt2
                    rw [← e52, ← e54] at f5
                    have HL2 := Lib.hid (show LL[i2]? = some LL[i2] from List.getElem?_eq_getElem hlt2)
                    have F7O := Lib.hid f7
                    clear dm2 hc5 f7 h5 e6 e52 e53 e54
                    generalize LL[i2] = W2 at *
                    rw [HL2.out] at HT4
                    simp only at HT4
                    have F6 := Lib.hid f6
                    clear f6
                    go_wp2_with fail
                    refine (MO3.out _ (Ext.refl _)).mono ?_; rintro e v3 ⟨rfl, x3⟩; obtain ⟨c3, f3⟩ := x3.rules; have z3 := x3.size
                    clear c3 f3
                    have G4 := Lib.hid (G3.out.ext x3)
                    have RD4 := Lib.hid (RD3.out.ext x3)
                    have BD4 := Lib.hid (BD3.out.ext x3)
                    have OW4 := Lib.hid (own_old OW3.out x3)
                    have LY4 := Lib.hid (LY3.out.ext x3)
                    have F7 := Lib.hid (F6.out.gb G4.out (fun q e => by cases a6 with | none => cases e | some q' => cases e; exact F7O.out _ rfl))
                    have k0 : v3.cell? ⟨R, 0, none⟩ = _ := RD4.out.cells.1
                    have k1 : v3.cell? ⟨R, 1, none⟩ = _ := RD4.out.cells.2.1
                    have k5 := G4.out.cell f5 hb1
                    have zk5 := cell_lt k5
                    simp only at zk5
                    have zR4 := RD4.out.blk.lt
                    clear MO3 G3 RD3 BD3 OW3 LY3 RB3 f5 d0 d1 d2 q0 q1 q2 hw3
                    have hiz2 : (i2 : Int) < (LL.length : Int) := by omega
                    go_wp2_with fail
                    go_quiet (fail)
                    have RV := Lib.hid (F7.out.ext ((Ext.refl v3).drewN nq))
                    have LK := Lib.hid (show ∀ y, W2 = [lossB, y] → lossK W2 = lossTo y 3 from fun y h => by rw [h]; exact lossTo_all y)
                    have TB : Hid (lossK W2 = 0 → T = (none, i2)) := Lib.hid (fun h => by rw [if_pos h] at HT4; exact HT4.symm)
                    have hzl2 : (W2.length : Int) ≤ 100000 ∨ True := .inr trivial
                    by_cases hlen : W2.length = 2
                    · obtain ⟨p, y, rfl⟩ := two_of hlen
                      obtain ⟨a', c', e', hcap, -, h3⟩ := RV.out
                      injection e' with e1 e2 e3
                      subst e1
                      subst e3
                      obtain ⟨b6, o6, rfl, hc6⟩ := h3 (by simp [strs])
                      rw [strs_len] at hcap
                      have hcc2 : (2 : Int) ≤ (c6 : Int) := by simp at hcap; omega
                      have hln : [p, y].length = 2 := rfl
                      have g6 : (v3.drewN nq).cell? ⟨b6, o6, none⟩ = some (.string (ba p)) := hc6 0 (by simp [strs])
                      have g7 : (v3.drewN nq).cell? ⟨b6, o6 + 1, none⟩ = some (.string (ba y)) := hc6 1 (by simp [strs])
                      have zg6 : b6 < v3.heap.size := cell_lt g6
                      have zb6 : b6 < w.heap.size := by
                        obtain ⟨_, _, e', _, _, h3'⟩ := F6.out
                        injection e' with e1' _ _
                        obtain ⟨b7, o7, e2', hc7⟩ := h3' (by simp [strs])
                        rw [← e1'] at e2'
                        injection e2' with e3'
                        injection e3' with e4' _ _
                        rw [e4']
                        exact cell_lt ((hc7 0 (by simp [strs])).trans (by simp [strs]; rfl))
                      obtain ⟨P, hP, -, -, -, PS⟩ := str_of p
                      obtain ⟨Y, hY, -, -, -, YS⟩ := str_of y
                      rw [hP] at g6
                      rw [hY] at g7
                      clear hc6 h3 hP hY e2 RV hcap hlen
                      by_cases hp : p = lossB
                      · subst hp
                        have e1 : (P.toList == [108, 111, 115, 115]) = true := by rw [PS.out]; decide
                        have LK2 := LK.out y rfl
                        have g7' : v3.cell? ⟨b6, o6 + 1, none⟩ = some (.string Y) := g7
                        have zr3 : R < v3.heap.size := zR4
                        obtain ⟨S0, hS0⟩ : ∃ S0, ba [] = S0 := ⟨_, rfl⟩
                        obtain ⟨S1, hS1, -, -, -, L1⟩ := str_of xentB
                        obtain ⟨S2, hS2, -, -, -, L2⟩ := str_of squareB
                        have LO := Lib.hid (losses_any (v3.drewN nq))
                        rw [hS0, hS1, hS2] at LO
                        obtain ⟨V5, hV5⟩ : ∃ V5 : World, (v3.drewN nq).alloc (.cells #[.string S0, .string S1, .string S2] 9) = V5 := ⟨_, rfl⟩
                        have X5 : Ext v3 V5 := by rw [← hV5]; exact ((Ext.refl v3).drewN nq).alloc _
                        have BN := Lib.hid (show Blk V5 v3.heap.size 9 #[.string S0, .string S1, .string S2] by rw [← hV5]; exact Blk.new (v3.drewN nq) _ _)
                        have G5 := Lib.hid (G4.out.ext X5)
                        have BD5 := Lib.hid (BD4.out.ext X5)
                        have OW5 := Lib.hid (own_old OW4.out X5)
                        have LY5 := Lib.hid (LY4.out.ext X5)
                        have RB5 := Lib.hid (RD4.out.blk.ext X5)
                        have Y7 := Lib.hid (X5.cell g7')
                        have Y5 := Lib.hid X5
                        have z5 := X5.size
                        have z35 : w.heap.size < v3.heap.size := BD4.out.lt
                        clear TB LK hS0 hS1 hS2 g7' X5
                        go_wp2_with fail
                        refine LO.out.mono ?_
                        rintro e' w5 ⟨rfl, rfl⟩
                        rw [hV5]
                        clear LO hV5 G4 BD4 OW4 LY4 RD4 k0 k1 k5 g6 g7 F7 F6
                        go_wp2_with fail
                        go_loopw [10, 11, 117] (fun _k _s c wr => ∃ j : Nat, j ≤ 3 ∧ c = .int .i64 j ∧ Blk wr w.heap.size 26 #[.slice ia ws.length ic, .slice ya L.length yc, .int .i64 (lossTo y j)] ∧ GB V5 wr w.heap.size) (fun _ _ c _ => 3 - (intOf c).toNat)
                        case atStart => exact ⟨0, by omega, rfl, BD5.out, GB.refl _ _⟩
                        case round =>
                          obtain ⟨j, hj, rfl, hb, hg⟩ := hrel
                          have n0 : wr.cell? ⟨v3.heap.size, 0, none⟩ = some (.string S0) := hg.cell (BN.out.cell 0) (show v3.heap.size ≠ w.heap.size by omega)
                          have n1 : wr.cell? ⟨v3.heap.size, 1, none⟩ = some (.string S1) := hg.cell (BN.out.cell 1) (show v3.heap.size ≠ w.heap.size by omega)
                          have n2 : wr.cell? ⟨v3.heap.size, 2, none⟩ = some (.string S2) := hg.cell (BN.out.cell 2) (show v3.heap.size ≠ w.heap.size by omega)
                          have g7 := hg.cell Y7.out (show b6 ≠ w.heap.size by omega)
                          have zz7 := cell_lt g7
                          have zz0 := cell_lt n0
                          simp only at zz7 zz0
                          have d2 : wr.cell? ⟨w.heap.size, 2, none⟩ = some (.int .i64 (lossTo y j)) := hb.cell 2
                          have q2 := hb.frozen 2
                          have zd := hb.lt
                          have HB := Lib.hid hb
                          have HG := Lib.hid hg
                          have hjj : j = 0 ∨ j = 1 ∨ j = 2 ∨ j = 3 := by omega
                          clear hb hg
                          rcases hjj with rfl | rfl | rfl | rfl
                          · have HB2 := HB.out
                            rw [lossTo_1] at HB2
                            have HB3 := Lib.hid HB2
                            clear HB2 HB
                            go_wp2_with fail
                            exact ⟨⟨1, by omega, rfl, HB3.out, HG.out⟩, by simp [intOf]⟩
                          · by_cases hy : y = xentB
                            · subst hy
                              have e1 : (S1.toList == Y.toList) = true := by rw [L1.out, YS.out]; simp
                              have HB3 := Lib.hid (HB.out.set_ 2 (.int .i64 1))
                              have HG3 := Lib.hid (HG.out.set 2 (.int .i64 1))
                              generalize lossTo xentB 1 = q at *
                              go_wp2_with fail
                              refine ⟨⟨2, by omega, rfl, ?_, HG3.out⟩, by simp [intOf]⟩
                              rw [lossTo_2x]; exact HB3.out
                            · have e1 : (S1.toList == Y.toList) = false := by rw [L1.out, YS.out]; simp; exact fun h => hy h.symm
                              have HB2 := HB.out
                              rw [lossTo_2 hy] at HB2
                              have HB3 := Lib.hid HB2
                              clear HB2 HB
                              go_wp2_with fail
                              exact ⟨⟨2, by omega, rfl, HB3.out, HG.out⟩, by simp [intOf]⟩
                          · by_cases hy : y = squareB
                            · subst hy
                              have e1 : (S2.toList == Y.toList) = true := by rw [L2.out, YS.out]; simp
                              have HB3 := Lib.hid (HB.out.set_ 2 (.int .i64 2))
                              have HG3 := Lib.hid (HG.out.set 2 (.int .i64 2))
                              generalize lossTo squareB 2 = q at *
                              go_wp2_with fail
                              refine ⟨⟨3, by omega, rfl, ?_, HG3.out⟩, by simp [intOf]⟩
                              rw [lossTo_3s]; exact HB3.out
                            · have e1 : (S2.toList == Y.toList) = false := by rw [L2.out, YS.out]; simp; exact fun h => hy h.symm
                              have HB2 := HB.out
                              rw [lossTo_3 hy] at HB2
                              have HB3 := Lib.hid HB2
                              clear HB2 HB
                              go_wp2_with fail
                              exact ⟨⟨3, by omega, rfl, HB3.out, HG.out⟩, by simp [intOf]⟩
                          · clear n0 n1 n2 g7 zz7 zz0 hj d2
                            rw [LK2] at HT4
                            have Z3 := Lib.hid LK2
                            clear LK2
                            generalize lossTo y 3 = z at *
                            have d0 : wr.cell? ⟨w.heap.size, 0, none⟩ = some (.slice ia ws.length ic) := HB.out.cell 0
                            have d1 : wr.cell? ⟨w.heap.size, 1, none⟩ = some (.slice ya L.length yc) := HB.out.cell 1
                            have d2 : wr.cell? ⟨w.heap.size, 2, none⟩ = some (.int .i64 z) := HB.out.cell 2
                            have q0 := HB.out.frozen 0
                            have q1 := HB.out.frozen 1
                            have G6 := Lib.hid (G5.out.farther HG.out (Nat.le_refl _))
                            have RB6 := Lib.hid (show Blk wr R 71 #[.slice (some ⟨b1, o1, none⟩) LL.length lc, .int .i64 i2, .int .i64 l2] from RB5.out.gb HG.out (by omega))
                            have zR6 := RB6.out.lt
                            by_cases hz0 : z = 0
                            · rw [if_pos hz0] at HT4
                              have TE : T = (none, i2) := HT4.symm
                              subst TE
                              subst hz0
                              have G7 := Lib.hid ((((G6.out.far (o := 0) (u := .slice none 0 0) (Nat.le_refl _)).far (o := 1) (u := .slice none 0 0) (Nat.le_refl _)).far (o := 2) (u := .int .i64 0) (Nat.le_refl _)))
                              clear HT4
                              go_wp2_with fail
                              (try rw [Exit.noGoto_ret])
                              change bodyPost _ _ _ _ _ _
                              simp [bodyPost, results, Tryd.results38, go_sem, *]
                              exact ⟨G7.out, ⟨l2, ((RB6.out.far (show R ≠ w.heap.size by omega) _).far (show R ≠ w.heap.size by omega) _).far (show R ≠ w.heap.size by omega) _, LI.out.gb G7.out⟩, fun _ => rfl, fun d h => (by cases h), ⟨_, _, _, _, _, _, _, rfl⟩⟩
                            · rw [if_neg hz0] at HT4
                              have ez : (z == 0) = false := by simpa using hz0
                              obtain ⟨J2, hJ2⟩ : ∃ J2 : Nat, i2 + 1 = J2 := ⟨_, rfl⟩
                              rw [hJ2] at HT4
                              have wj2 : IntKind.i64.wrap ((i2 : Int) + 1) = (J2 : Int) := by rw [IntKind.wrap_i64]; omega
                              have r1 : wr.cell? ⟨R, 1, none⟩ = some (.int .i64 i2) := RB6.out.cell 1
                              have rq1 := RB6.out.frozen 1
                              obtain ⟨W6, hW6⟩ : ∃ W6 : World, wr.setCell ⟨R, 1, none⟩ (.int .i64 J2) = W6 := ⟨_, rfl⟩
                              have gbr := (GB.refl wr R).set 1 (.int .i64 (J2 : Int))
                              rw [hW6] at gbr
                              have G7 := Lib.hid (G6.out.trans gbr)
                              have RB7 := Lib.hid (show Blk W6 R 71 #[.slice (some ⟨b1, o1, none⟩) LL.length lc, .int .i64 J2, .int .i64 l2] by rw [← hW6]; exact RB6.out.set_ 1 _)
                              have RD7 := Lib.hid (show ReadAt W6 R (.slice (some ⟨b1, o1, none⟩) LL.length lc) LL J2 l2 from ⟨RB7.out, LI.out.gb G7.out⟩)
                              have BD7 := Lib.hid (HB.out.gb gbr (by omega))
                              have OW7 := Lib.hid ((OW5.out.kept HG.out (.inr (fun e => by have := (OW5.out.lt _ e).1; omega))).kept gbr (.inr (fun e => by have := (OW5.out.lt _ e).1; omega)))
                              have LY7 := Lib.hid ((LY5.out.keep (A' := fun b => w.heap.size + 1 ≤ b ∧ b < wr.heap.size) (fun b hb => ⟨hb.1, by have h1 : b < w3.heap.size := hb.2; have := HG.out.size; omega⟩) (fun b hb hlt => HG.out.block b hlt (fun e => by have h1 : w.heap.size + 1 ≤ b := hb.1; have e1 := Option.some.inj e; omega))).keep (A' := fun b => (w.heap.size ≤ b ∧ b < W6.heap.size) ∧ b ≠ w.heap.size) (fun b hb => ⟨⟨by have h1 : w.heap.size + 1 ≤ b := hb.1; omega, Nat.lt_of_lt_of_le hb.2 gbr.size⟩, by have h1 : w.heap.size + 1 ≤ b := hb.1; omega⟩) (fun b hb hlt => gbr.block b hlt (fun e => by have h1 : w.heap.size + 1 ≤ b := hb.1; have e1 := Option.some.inj e; omega)))
                              have MO7 := Lib.hid (fun u (x : Ext W6 u) => more_any (RD7.out.ext x))
                              have s6 := BD7.out.lt
                              have g0 : W6.cell? ⟨w.heap.size, 0, none⟩ = some (.slice ia ws.length ic) := BD7.out.cell 0
                              have g1 : W6.cell? ⟨w.heap.size, 1, none⟩ = some (.slice ya L.length yc) := BD7.out.cell 1
                              have g2 : W6.cell? ⟨w.heap.size, 2, none⟩ = some (.int .i64 z) := BD7.out.cell 2
                              have gq0 := BD7.out.frozen 0
                              have gq1 := BD7.out.frozen 1
                              have gq2 := BD7.out.frozen 2
                              obtain ⟨mo, hmo⟩ : ∃ mo, decide (J2 < LL.length) = mo := ⟨_, rfl⟩
                              rw [hmo] at MO7
                              have FIN8 := Lib.hid (show ∀ V7 : World, Ext W6 V7 → WholeRes w (((V7.setCell ⟨w.heap.size, 0, none⟩ (.slice ia ws.length ic)).setCell ⟨w.heap.size, 1, none⟩ (.slice ya L.length yc)).setCell ⟨w.heap.size, 2, none⟩ (.int .i64 z)) R (.slice (some ⟨b1, o1, none⟩) LL.length lc) LL T (.agg #[.slice ia ws.length ic, .slice ya L.length yc, .int .i64 z]) (!mo) from by
                                intro V7 X
                                have gg := (((GB.refl V7 w.heap.size).set 0 (.slice ia ws.length ic)).set 1 (.slice ya L.length yc)).set 2 (.int .i64 z)
                                have G8 := (((G7.out.ext X).far (o := 0) (u := .slice ia ws.length ic) (Nat.le_refl _)).far (o := 1) (u := .slice ya L.length yc) (Nat.le_refl _)).far (o := 2) (u := .int .i64 z) (Nat.le_refl _)
                                have hl2 : T.2 = J2 := by rw [← HT4]; split <;> rfl
                                refine ⟨G8, ⟨l2, ?_, LI.out.gb G8⟩, fun h => ?_, fun d h => ?_, ⟨_, _, _, _, _, _, _, rfl⟩⟩
                                · rw [hl2]; exact (((RB7.out.ext X).far (show R ≠ w.heap.size by omega) _).far (show R ≠ w.heap.size by omega) _).far (show R ≠ w.heap.size by omega) _
                                · by_cases hm : J2 < LL.length
                                  · rw [← hmo, decide_eq_true hm]; rfl
                                  · rw [if_neg hm] at HT4; rw [← HT4] at h; cases h
                                · by_cases hm : J2 < LL.length
                                  · rw [if_pos hm] at HT4; rw [← HT4] at h; cases h
                                  · rw [if_neg hm] at HT4
                                    rw [← HT4] at h
                                    cases h
                                    refine ⟨by rw [← hmo, decide_eq_false hm]; rfl, ⟨_, _, rfl, ?_, ?_⟩⟩
                                    · have o8 := (own_old OW7.out X).kept gg (.inr (fun e => by have := (OW7.out.lt _ e).1; omega))
                                      have hla : acc.length = ws.length := ACCL.out
                                      rw [List.length_map, hla, List.map_map]
                                      exact own_base o8 (by omega)
                                    · exact (LY7.out.ext X).keep (fun b hb => ⟨hb.1.1, by have := X.size; have h1 : b < W6.heap.size := hb.1.2; have := gg.size; omega⟩) (fun b hb hlt => gg.block b hlt (fun e => hb.2 (Option.some.inj e))))
                              clear hmo gbr G6 RB6 HB HG G5 BD5 OW5 LY5 RB5 Y7 Y5 BN YS PS HT4
                              go_upto_region 28 with (fail)
                              go_region_with ((go_at_call 53; refine (MO7.out _ (by repeat (first | with_reducible exact Ext.refl _ | with_reducible apply Ext.drew | with_reducible apply Ext.drewN | with_reducible apply Ext.alloc | ((with_reducible refine Ext.setCell ?_ ?_ _); rotate_left; focus (first | (simp; done) | (simp; omega) | omega)) | with_reducible refine Ext.tr ?_ x1 | with_reducible refine Ext.tr ?_ x3 | with_reducible refine Ext.tr ?_ x7 | with_reducible refine Ext.tr ?_ hx | with_reducible assumption))).mono ?_; rintro e v7 ⟨rfl, x7⟩; obtain ⟨c7, f7⟩ := x7.rules; have z7 := x7.size; have k7_w_heap_size_0 := c7 (w.heap.size) 0 (by first | (simp; done) | (simp; omega) | omega); have q7_w_heap_size_0 := f7 (w.heap.size) 0 (by first | (simp; done) | (simp; omega) | omega); have k7_w_heap_size_1 := c7 (w.heap.size) 1 (by first | (simp; done) | (simp; omega) | omega); have q7_w_heap_size_1 := f7 (w.heap.size) 1 (by first | (simp; done) | (simp; omega) | omega); have k7_w_heap_size_2 := c7 (w.heap.size) 2 (by first | (simp; done) | (simp; omega) | omega); have q7_w_heap_size_2 := f7 (w.heap.size) 2 (by first | (simp; done) | (simp; omega) | omega); have z7_w_heap_size : w.heap.size < v7.heap.size := (by (try simp at z7); omega); (try simp at z7); clear c7 f7; simp [go_sem, *] at k7_w_heap_size_0 q7_w_heap_size_0 k7_w_heap_size_1 q7_w_heap_size_1 k7_w_heap_size_2 q7_w_heap_size_2))
                              all_goals
                                have XF := Lib.hid (FIN8.out _ (show Ext W6 v7 from (by repeat (first | with_reducible exact Ext.refl _ | with_reducible apply Ext.drew | with_reducible apply Ext.drewN | with_reducible apply Ext.alloc | ((with_reducible refine Ext.setCell ?_ ?_ _); rotate_left; focus (first | (simp; done) | (simp; omega) | omega)) | with_reducible refine Ext.tr ?_ x1 | with_reducible refine Ext.tr ?_ x3 | with_reducible refine Ext.tr ?_ x7 | with_reducible refine Ext.tr ?_ hx | with_reducible assumption))))
                                go_wp2_with fail
                                (try rw [Exit.noGoto_ret])
                                change bodyPost _ _ _ _ _ _
                                simp [bodyPost, results, Tryd.results38, go_sem, *]
                                cases mo with
                                | true => exact ⟨_, .inl ⟨⟨rfl, rfl⟩, XF.out⟩⟩
                                | false => exact ⟨_, .inr ⟨⟨rfl, rfl⟩, XF.out⟩⟩
                      · have TE : T = (none, i2) := TB.out (lossK_bad (by rintro ⟨y', e⟩; injection e with e _; exact hp e))
                        subst TE
                        have e1 : (P.toList == [108, 111, 115, 115]) = false := by rw [PS.out]; simp; exact hp
                        have HK := True.intro
                        clear HT4 HK
                        have d0 : v3.cell? ⟨w.heap.size, 0, none⟩ = some (.slice ia ws.length ic) := BD4.out.cell 0
                        have d1 : v3.cell? ⟨w.heap.size, 1, none⟩ = some (.slice ya L.length yc) := BD4.out.cell 1
                        have d2 : v3.cell? ⟨w.heap.size, 2, none⟩ = some (.int .i64 0) := BD4.out.cell 2
                        have q0 := BD4.out.frozen 0
                        have q1 := BD4.out.frozen 1
                        have q2 := BD4.out.frozen 2
                        have zz := BD4.out.lt
                        have G5 := Lib.hid (((((G4.out.ext ((Ext.refl v3).drewN nq)).far (o := 0) (u := .slice none 0 0) (Nat.le_refl _)).far (o := 1) (u := .slice none 0 0) (Nat.le_refl _)).far (o := 2) (u := .int .i64 0) (Nat.le_refl _)))
                        have RB5 := Lib.hid (RD4.out.blk.drewN nq)
                        go_wp2_with fail
                        (try rw [Exit.noGoto_ret])
                        change bodyPost _ _ _ _ _ _
                        simp [bodyPost, results, Tryd.results38, go_sem, *]
                        exact ⟨G5.out, ⟨l2, ((RB5.out.far (show R ≠ w.heap.size by omega) _).far (show R ≠ w.heap.size by omega) _).far (show R ≠ w.heap.size by omega) _, LI.out.gb G5.out⟩, fun _ => rfl, fun d h => (by cases h), ⟨_, _, _, _, _, _, _, rfl⟩⟩
                    · have TE : T = (none, i2) := TB.out (lossK_bad (by rintro ⟨y, rfl⟩; exact hlen rfl))
                      subst TE
                      have hlen2 : ((W2.length : Int) != 2) = true := by simp; omega
                      have HK := True.intro
                      clear HT4 HK
                      have d0 : v3.cell? ⟨w.heap.size, 0, none⟩ = some (.slice ia ws.length ic) := BD4.out.cell 0
                      have d1 : v3.cell? ⟨w.heap.size, 1, none⟩ = some (.slice ya L.length yc) := BD4.out.cell 1
                      have d2 : v3.cell? ⟨w.heap.size, 2, none⟩ = some (.int .i64 0) := BD4.out.cell 2
                      have q0 := BD4.out.frozen 0
                      have q1 := BD4.out.frozen 1
                      have q2 := BD4.out.frozen 2
                      have zz := BD4.out.lt
                      have G5 := Lib.hid (((((G4.out.ext ((Ext.refl v3).drewN nq)).far (o := 0) (u := .slice none 0 0) (Nat.le_refl _)).far (o := 1) (u := .slice none 0 0) (Nat.le_refl _)).far (o := 2) (u := .int .i64 0) (Nat.le_refl _)))
                      have RB5 := Lib.hid (RD4.out.blk.drewN nq)
                      go_wp2_with fail
                      (try rw [Exit.noGoto_ret])
                      change bodyPost _ _ _ _ _ _
                      simp [bodyPost, results, Tryd.results38, go_sem, *]
                      exact ⟨G5.out, ⟨l2, ((RB5.out.far (show R ≠ w.heap.size by omega) _).far (show R ≠ w.heap.size by omega) _).far (show R ≠ w.heap.size by omega) _, LI.out.gb G5.out⟩, fun _ => rfl, fun d h => (by cases h), ⟨_, _, _, _, _, _, _, rfl⟩⟩
                  · have dm2 : decide (i2 < LL.length) = false := by simp; omega
                    rw [dm2] at MO3
                    rw [List.getElem?_eq_none hge2] at HT4
                    have TE : T = (none, i2) := HT4.symm
                    subst TE
                    clear HT4 dm2
                    go_wp2_with fail
                    refine (MO3.out _ (Ext.refl _)).mono ?_; rintro e v3 ⟨rfl, x3⟩; obtain ⟨c3, f3⟩ := x3.rules; have z3 := x3.size
                    clear c3 f3
                    have g0' : w3.cell? ⟨w.heap.size, 0, none⟩ = some (.slice ia ws.length ic) := BD3.out.cell 0
                    have g1' : w3.cell? ⟨w.heap.size, 1, none⟩ = some (.slice ya L.length yc) := BD3.out.cell 1
                    have g2' : w3.cell? ⟨w.heap.size, 2, none⟩ = some (.int .i64 0) := BD3.out.cell 2
                    have gq0' := BD3.out.frozen 0
                    have gq1' := BD3.out.frozen 1
                    have gq2' := BD3.out.frozen 2
                    have k0 := x3.cell g0'
                    have k1 := x3.cell g1'
                    have k2 := x3.cell g2'
                    have kq0 := x3.frozen g0' gq0'
                    have kq1 := x3.frozen g1' gq1'
                    have kq2 := x3.frozen g2' gq2'
                    have G4 := Lib.hid (((((G3.out.ext x3).far (o := 0) (u := .slice none 0 0) (Nat.le_refl _)).far (o := 1) (u := .slice none 0 0) (Nat.le_refl _)).far (o := 2) (u := .int .i64 0) (Nat.le_refl _)))
                    have RB4 := Lib.hid (RB3.out.ext x3)
                    clear d0 d1 d2 q0 q1 q2 MO3 g0' g1' g2' gq0' gq1' gq2' hw3
                    go_wp2_with fail
                    (try rw [Exit.noGoto_ret])
                    change bodyPost _ _ _ _ _ _
                    simp [bodyPost, results, Tryd.results38, go_sem, *]
                    exact ⟨G4.out, ⟨l2, ((RB4.out.far (show R ≠ w.heap.size by omega) _).far (show R ≠ w.heap.size by omega) _).far (show R ≠ w.heap.size by omega) _, LI.out.gb G4.out⟩, fun _ => rfl, fun d h => (by cases h), ⟨_, _, _, _, _, _, _, rfl⟩⟩
          · have e1 : (S.toList == [105, 110, 112, 117, 116]) = false := by rw [LS.out]; simp; exact hx
            have TE : T = (none, 0) := by have := HT.out; rw [if_pos (.inr (.inr (by simpa using hx)))] at this; exact this.symm
            subst TE
            clear HT
            go_wp2_with fail
            (try rw [Exit.noGoto_ret])
            change bodyPost _ _ _ _ _ _
            simp [bodyPost, results, Tryd.results38, go_sem, *]
            exact ⟨(GB.refl w R).ext (by repeat (first | with_reducible exact Ext.refl _ | with_reducible apply Ext.drew | with_reducible apply Ext.drewN | with_reducible apply Ext.alloc | ((with_reducible refine Ext.setCell ?_ ?_ _); rotate_left; focus (first | (simp; done) | (simp; omega) | omega)) | with_reducible refine Ext.tr ?_ x1 | with_reducible refine Ext.tr ?_ x3 | with_reducible refine Ext.tr ?_ x7 | with_reducible refine Ext.tr ?_ hx | with_reducible assumption)), ⟨64, RD.out.ext (by repeat (first | with_reducible exact Ext.refl _ | with_reducible apply Ext.drew | with_reducible apply Ext.drewN | with_reducible apply Ext.alloc | ((with_reducible refine Ext.setCell ?_ ?_ _); rotate_left; focus (first | (simp; done) | (simp; omega) | omega)) | with_reducible refine Ext.tr ?_ x1 | with_reducible refine Ext.tr ?_ x3 | with_reducible refine Ext.tr ?_ x7 | with_reducible refine Ext.tr ?_ hx | with_reducible assumption))⟩, fun _ => rfl, fun d h => (by cases h), ⟨_, _, _, _, _, _, _, rfl⟩⟩
end Go.Proofs.YtfimmcnfmipnlaaDoor
