/- def.Parse. -/
import Derived.Test.YtfimmcnfmipnlaaDoorDefWhole
import Derived.Test.YtfimmcnfmipnlaaDoorDefLines
import Derived.Test.YtfimmcnfmipnlaaDoorRndReg
import Derived.Laws.IdiomStrings
import Derived.Laws.BytesArg
import Derived.Deep.AppendLies
namespace Go.Proofs.YtfimmcnfmipnlaaDoor
open Go.RowKit Go.Shelf
attribute [local go_sem] Oper.semAt_some
/-- Bytes, as a row's values. -/
def bytesV (b : Bs) : List Value := b.map (fun x => Value.int .u8 (x.toNat : Int))
/-- What is behind the last line. -/
def restB (b : Bs) : Bs := (cutAt 10 b).getLastD []
/-- What a text says. -/
def parseS (b : Bs) : Option DefL × Nat := if 8192 < b.length then (none, 0) else parseP ((cutAt 10 b).dropLast.map wordsS) (restB b)
theorem restB_nil : restB [] = [] := rfl
theorem restB_snoc (l : Bs) (x : UInt8) : restB (l ++ [x]) = [] ↔ x = 10 := by
  obtain ⟨h, t, e⟩ := cutAt_some 10 l
  obtain ⟨L, y, e2⟩ : ∃ L y, cutAt 10 l = L ++ [y] := ⟨(cutAt 10 l).dropLast, (cutAt 10 l).getLast (by rw [e]; simp), (List.dropLast_concat_getLast _).symm⟩
  unfold restB
  rw [cutAt_one e2]
  by_cases hx : x = 10
  · rw [if_pos hx]; simp [hx]
  · rw [if_neg hx]; simp [hx]
theorem bytes_str {w : World} {v : Value} {b : Bs} (h : RowV w v (bytesV b)) : ∀ dst, Tryd.prog.underlying dst = some .string → (convert 47 dst v).run Tryd.prog w = .ok (.string (ba b)) w := by
  intro dst hd
  obtain ⟨a, cap, rfl, -, -, h3⟩ := h
  cases b with
  | nil =>
    cases a with
    | none => exact run_convert_bytes_nil (P := Tryd.prog) w 47 5 Tryd.underlying47 Tryd.underlying5 _ _ dst hd
    | some p => exact run_convert_bytes_back (P := Tryd.prog) w 47 dst 5 p cap [] Tryd.underlying47 Tryd.underlying5 hd (fun j hj => by simp at hj)
  | cons x xs =>
    obtain ⟨g, o, rfl, hc⟩ := h3 (by simp [bytesV])
    have := run_convert_bytes_back (P := Tryd.prog) w 47 dst 5 ⟨g, o, none⟩ cap (x :: xs) Tryd.underlying47 Tryd.underlying5 hd (fun j hj => by
      have := hc j (by simpa [bytesV] using hj)
      have e : (⟨g, o, none⟩ : Addr).add j = ⟨g, o + j, none⟩ := by unfold Addr.add; split <;> simp_all
      rw [e, this]
      simp only [bytesV, List.getElem?_map, List.getElem?_eq_getElem hj, Option.map_some])
    have hl : (bytesV (x :: xs)).length = (x :: xs).length := by simp [bytesV]
    rw [hl]
    exact this
/-- Rows of words that are gathered. -/
structure GatAt (base : Nat) (W : World) (lv : Value) (pre : List (Value × List Bs)) : Prop where
  own : W.ownsRow base 43 1 lv pre.length (pre.map (·.1))
  row : ∀ i (h : i < pre.length), W.ownsRow base 9 1 pre[i].1 pre[i].2.length (strs pre[i].2) ∧ ∀ q, pre[i].1.ownBlock = some q → lv.ownBlock ≠ some q
theorem own_grow {W W' : World} {base : Nat} {e : TypeId} {size : Nat} {v : Value} {n : Nat} {xs : List Value} {row : Option Nat} (h : W.ownsRow base e size v n xs) (hg : W.grownBy W' row) (hr : ∀ r, row = some r → v.ownBlock ≠ some r) : W'.ownsRow base e size v n xs :=
  h.kept hg (by
    cases hv : v.ownBlock with
    | none => exact .inl rfl
    | some q => exact .inr (fun e => hr q e.symm hv))
theorem GatAt.grown {base : Nat} {W W' : World} {lv : Value} {pre : List (Value × List Bs)} {row : Option Nat} (h : GatAt base W lv pre) (hg : W.grownBy W' row) (h1 : ∀ r, row = some r → lv.ownBlock ≠ some r) (h2 : ∀ r, row = some r → ∀ i (hi : i < pre.length), pre[i].1.ownBlock ≠ some r) : GatAt base W' lv pre :=
  ⟨own_grow h.own hg h1, fun i hi => ⟨own_grow (h.row i hi).1 hg (fun r e => h2 r e i hi), (h.row i hi).2⟩⟩
theorem GatAt.snoc {base : Nat} {W W' : World} {lv v' xv : Value} {xL : List Bs} {pre : List (Value × List Bs)} (h : GatAt base W lv pre) (hg : W.grownBy W' lv.ownBlock) (hx : W.ownsRow base 9 1 xv xL.length (strs xL)) (hne : ∀ q, xv.ownBlock = some q → lv.ownBlock ≠ some q)
    (ho : W'.ownsRow base 43 1 v' (pre.length + 1) (pre.map (·.1) ++ [xv])) (hb : ∀ g, v'.ownBlock = some g → lv.ownBlock = some g ∨ W.heap.size ≤ g) : GatAt base W' v' (pre ++ [(xv, xL)]) := by
  refine ⟨by simpa using ho, fun i hi => ?_⟩
  have old : ∀ {yv : Value} {yL : List Bs}, W.ownsRow base 9 1 yv yL.length (strs yL) → (∀ q, yv.ownBlock = some q → lv.ownBlock ≠ some q) → W'.ownsRow base 9 1 yv yL.length (strs yL) ∧ ∀ q, yv.ownBlock = some q → v'.ownBlock ≠ some q := fun hy hn =>
    ⟨own_grow hy hg (fun r e e2 => hn r e2 e), fun q e e2 => by
      rcases hb q e2 with h' | h'
      · exact hn q e h'
      · have := (hy.lt q e).2; omega⟩
  rcases Nat.lt_or_ge i pre.length with hlt | hge
  · rw [List.getElem_append_left hlt]
    exact old (h.row i hlt).1 (h.row i hlt).2
  · have : i = pre.length := by simp at hi; omega
    subst this
    have e : (pre ++ [(xv, xL)])[pre.length]'hi = (xv, xL) := by simp
    rw [e]
    exact old hx hne
theorem GatAt.lines {base R : Nat} {W : World} {lv : Value} {pre : List (Value × List Bs)} (h : GatAt base W lv pre) (hR : R < base) : LinesAt R W lv (pre.map (·.2)) := by
  rcases h.own.2 with ⟨rfl, h0⟩ | ⟨g, cap, cur, rfl, hb, hg, h1, h2, -, -⟩
  · have : pre = [] := List.eq_nil_of_length_eq_zero h0
    subst this
    exact ⟨none, 0, rfl, by simp, by simp [maxLen], fun h => absurd rfl h⟩
  · refine ⟨_, cap, by simp, by simpa using h1, h2, fun _ => ⟨g, 0, rfl, by omega, fun i hi => ?_⟩⟩
    have hi' : i < pre.length := by simpa using hi
    obtain ⟨r1, r2⟩ := h.row i hi'
    obtain ⟨a, c, e⟩ := own_form0 r1
    refine ⟨a, c, ?_, ?_, fun q e2 => ?_⟩
    · rw [Nat.zero_add, h.own.cellAt i (by omega)]
      simp only [List.getElem?_map, List.getElem?_eq_getElem hi', Option.map_some, List.getElem_map]
      rw [e]
    · rw [List.getElem_map, ← e]; exact RowV.of_owns r1
    · have := (r1.lt q.block (by rw [e, e2]; rfl)).1; omega
/-- What stands while the lines are gathered. -/
structure ParI (n0 : Nat) (W : World) (lv : Value) (pre : List (Value × List Bs)) : Prop where
  bd : Blk W n0 26 #[.slice none 0 0, .slice none 0 0, .int .i64 0]
  br : Blk W (n0 + 1) 71 #[lv, .int .i64 0, .int .i64 64]
  bp : Blk W (n0 + 2) 68 #[.pointer (some ⟨n0 + 1, 0, none⟩)]
  gat : GatAt (n0 + 4) W lv pre
  sz : n0 + 4 ≤ W.heap.size
theorem ParI.grown {n0 : Nat} {W W' : World} {lv : Value} {pre : List (Value × List Bs)} {row : Option Nat} (h : ParI n0 W lv pre) (hg : W.grownBy W' row) (h0 : ∀ r, row = some r → r ≠ n0 ∧ r ≠ n0 + 1 ∧ r ≠ n0 + 2) (h1 : ∀ r, row = some r → lv.ownBlock ≠ some r) (h2 : ∀ r, row = some r → ∀ i (hi : i < pre.length), pre[i].1.ownBlock ≠ some r) : ParI n0 W' lv pre :=
  ⟨h.bd.grown hg (fun e => (h0 _ e.symm).1 rfl), h.br.grown hg (fun e => (h0 _ e.symm).2.1 rfl), h.bp.grown hg (fun e => (h0 _ e.symm).2.2 rfl), h.gat.grown hg h1 h2, Nat.le_trans h.sz hg.size⟩
theorem ParI.ext {n0 : Nat} {W W' : World} {lv : Value} {pre : List (Value × List Bs)} (h : ParI n0 W lv pre) (x : Ext W W') : ParI n0 W' lv pre :=
  h.grown (x.grow none) (fun _ e => by cases e) (fun _ e => by cases e) (fun _ e => by cases e)
theorem own_cells {W : World} {base : Nat} {e : TypeId} {size : Nat} {v : Value} {n : Nat} {xs : List Value} (h : W.ownsRow base e size v n xs) {r : Nat} (hv : v.ownBlock = some r) : ∃ c, W.heap[r]? = some (.cells c e (0, 0)) := by
  rcases h.2 with ⟨rfl, _⟩ | ⟨g, cap, cur, rfl, _, hg, _⟩
  · cases hv
  · cases hv; exact ⟨cur, hg⟩
theorem ParI.kept {n0 : Nat} {W W' : World} {lv : Value} {pre : List (Value × List Bs)} {row : Option Nat} (h : ParI n0 W lv pre) (hg : W.grownBy W' row) (hr : ∀ r, row = some r → ∃ o : Obj, W.heap[r]? = some o ∧ o.isCells = false) : ParI n0 W' lv pre := by
  refine h.grown hg (fun r e => ?_) (fun r e hv => ?_) (fun r e i hi hv => ?_)
  · obtain ⟨o, ho, hc⟩ := hr r e
    refine ⟨fun e2 => ?_, fun e2 => ?_, fun e2 => ?_⟩
    · rw [e2] at ho; have := h.bd; unfold Blk at this; rw [this] at ho; cases ho; cases hc
    · rw [e2] at ho; have := h.br; unfold Blk at this; rw [this] at ho; cases ho; cases hc
    · rw [e2] at ho; have := h.bp; unfold Blk at this; rw [this] at ho; cases ho; cases hc
  · obtain ⟨o, ho, hc⟩ := hr r e
    obtain ⟨c, h2⟩ := own_cells h.gat.own hv
    rw [h2] at ho; cases ho; cases hc
  · obtain ⟨o, ho, hc⟩ := hr r e
    obtain ⟨c, h2⟩ := own_cells (h.gat.row i hi).1 hv
    rw [h2] at ho; cases ho; cases hc
theorem par_keeps {W w1 : World} {R base n : Nat} {v u : Value} {cs : Array Value} {xs : List Value} {t e : TypeId} (hR : Blk W R t cs) (ho : W.ownsRow base e 1 v n xs) (hg : W.grownBy w1 v.ownBlock) : KeepsOthers W (w1.setCell ⟨R, 0, none⟩ u) :=
  ⟨Nat.le_trans hg.size (KeepsWalks.setCell w1 _ u).size, fun k o hk hc => by
    have hlt := (Array.getElem?_eq_some_iff.1 hk).1
    have h1 : k ≠ R := fun e => by rw [e] at hk; unfold Blk at hR; rw [hR] at hk; cases hk; cases hc
    rw [Below.heap_setCell w1 ⟨R, 0, none⟩ u k h1, hg.block k hlt (fun e => by
      obtain ⟨c, h2⟩ := own_cells ho e.symm
      rw [h2] at hk; cases hk; cases hc)]
    exact hk⟩
theorem cutAt_mem {c : UInt8} : ∀ {s x : Bs}, x ∈ cutAt c s → x.length ≤ s.length
  | [], x, h => by simp [cutAt] at h; subst h; simp
  | y :: s, x, h => by
    obtain ⟨p, q, e⟩ := cutAt_some c s
    have ih := fun z (hz : z ∈ cutAt c s) => cutAt_mem hz
    rw [cutAt_cons] at h
    split at h
    · rcases List.mem_cons.1 h with rfl | h
      · simp
      · have := ih x h; simp; omega
    · rw [e] at h ih
      simp only [List.modifyHead_cons] at h
      rcases List.mem_cons.1 h with rfl | h
      · have := ih p (by simp); simp; omega
      · have := ih x (by simp [h]); simp; omega
theorem wordsS_mem {s x : Bs} (h : x ∈ wordsS s) : x.length ≤ s.length := by
  unfold wordsS at h
  split at h
  · simp at h
  · exact cutAt_mem h
theorem par_fin {n0 Dn : Nat} {w V : World} {x y z a b c : Value} (hb : Blk V n0 26 #[a, b, c]) (hk : V.heap[Dn]? = some (.deferred (some []))) (hx : Ext w V) (hn : w.heap.size = n0) (hD : n0 < Dn) :
    (((V.setCell ⟨n0, 0, none⟩ x).setCell ⟨n0, 1, none⟩ y).setCell ⟨n0, 2, none⟩ z).heap[Dn]? = some (.deferred (some [])) ∧ Blk ((((V.setCell ⟨n0, 0, none⟩ x).setCell ⟨n0, 1, none⟩ y).setCell ⟨n0, 2, none⟩ z).putObj Dn (.deferred none)) n0 26 #[x, y, z] ∧ Ext w ((((V.setCell ⟨n0, 0, none⟩ x).setCell ⟨n0, 1, none⟩ y).setCell ⟨n0, 2, none⟩ z).putObj Dn (.deferred none)) := by
  have hne : Dn ≠ n0 := by omega
  have hK := (Below.heap_setCell ((V.setCell ⟨n0, 0, none⟩ x).setCell ⟨n0, 1, none⟩ y) ⟨n0, 2, none⟩ z Dn hne).trans ((Below.heap_setCell (V.setCell ⟨n0, 0, none⟩ x) ⟨n0, 1, none⟩ y Dn hne).trans ((Below.heap_setCell V ⟨n0, 0, none⟩ x Dn hne).trans hk))
  have hB : Blk (((V.setCell ⟨n0, 0, none⟩ x).setCell ⟨n0, 1, none⟩ y).setCell ⟨n0, 2, none⟩ z) n0 26 #[x, y, z] := ((hb.set_ 0 x).set_ 1 y).set_ 2 z
  have hX : Ext w (((V.setCell ⟨n0, 0, none⟩ x).setCell ⟨n0, 1, none⟩ y).setCell ⟨n0, 2, none⟩ z) := ((hx.setCell (by show _ ≤ n0; omega) x).setCell (by show _ ≤ n0; omega) y).setCell (by show _ ≤ n0; omega) z
  exact ⟨hK, (World.putObj_heap_other (fun e => hne e.symm)).trans hB, hX.trans (belowK_b (w := w) (Nat.le_refl _) _ Dn _ _ (by omega) hK rfl rfl)⟩
theorem par_def {w W W3 W4 V : World} {Dn : Nat} {dv : Value} {d : DefL} {x y z : Value} (h : DefNew W.heap.size W3 dv d) (h1 : GB W3 W4 w.heap.size) (hD : Dn < W.heap.size) (hw : w.heap.size + 4 ≤ W.heap.size) (hV : V.heap = W4.heap) :
    DefNew w.heap.size ((((V.setCell ⟨w.heap.size, 0, none⟩ x).setCell ⟨w.heap.size, 1, none⟩ y).setCell ⟨w.heap.size, 2, none⟩ z).putObj Dn (.deferred none)) dv d := by
  obtain ⟨iv, lv, rfl, hi, hl⟩ := h.is
  have same : ∀ k, k < W3.heap.size → W.heap.size ≤ k → ((((V.setCell ⟨w.heap.size, 0, none⟩ x).setCell ⟨w.heap.size, 1, none⟩ y).setCell ⟨w.heap.size, 2, none⟩ z).putObj Dn (.deferred none)).heap[k]? = W3.heap[k]? := fun k hk h2 => by
    have hne : k ≠ w.heap.size := by omega
    have hnd : Dn ≠ k := by omega
    rw [World.putObj_heap_other (fun e => hnd e.symm), Below.heap_setCell _ ⟨w.heap.size, 2, none⟩ _ k hne, Below.heap_setCell _ ⟨w.heap.size, 1, none⟩ _ k hne, Below.heap_setCell _ ⟨w.heap.size, 0, none⟩ _ k hne, hV]
    exact h1.block k hk (fun e => hne (Option.some.inj e))
  have big : W3.heap.size ≤ ((((V.setCell ⟨w.heap.size, 0, none⟩ x).setCell ⟨w.heap.size, 1, none⟩ y).setCell ⟨w.heap.size, 2, none⟩ z).putObj Dn (.deferred none)).heap.size := by
    have a1 := (KeepsWalks.setCell V ⟨w.heap.size, 0, none⟩ x).size
    have a2 := (KeepsWalks.setCell (V.setCell ⟨w.heap.size, 0, none⟩ x) ⟨w.heap.size, 1, none⟩ y).size
    have a3 := (KeepsWalks.setCell ((V.setCell ⟨w.heap.size, 0, none⟩ x).setCell ⟨w.heap.size, 1, none⟩ y) ⟨w.heap.size, 2, none⟩ z).size
    have a4 := h1.size
    rw [← hV] at a4
    simp
    omega
  refine ⟨⟨iv, lv, rfl, ⟨hi.1, ?_⟩, hl.keep (fun b hb => ⟨by have := hb.1; omega, Nat.lt_of_lt_of_le hb.2 big⟩) (fun b hb hlt => same b hlt hb.1)⟩⟩
  rcases hi.2 with h0 | ⟨g, cap, cur, hv, hb, hg, h3⟩
  · exact .inl h0
  · exact .inr ⟨g, cap, cur, hv, by omega, (same g (Array.getElem?_eq_some_iff.1 hg).1 hb).trans hg, h3⟩
theorem strsl_info : (Tryd.prog.info? 43).map (fun i => (i.zero, i.size, i.bytes)) = some (some (.slice none 0 0), 1, 24) := by kernel_rfl
theorem parse_big {v : Value} {b : Bs} {w : World} (h : RowV w v (bytesV b)) (hb : 8192 < b.length) :
    Calls Tryd.prog 22 #[v] w fun e w' => e = .returned (.tuple #[zeroDef, .int .i64 0, .int .i64 1]) ∧ Ext w w' := by
  obtain ⟨a, cap, rfl, -, -, -⟩ := h
  have hl : (bytesV b).length = b.length := by simp [bytesV]
  rw [hl]
  have hz : (8192 : Int) < (b.length : Int) := by omega
  clear hl
  go_enter Tryd.func22, Tryd.ntmps22
  go_wp2_with fail
  (try rw [Exit.noGoto_ret])
  change bodyPost _ _ _ _ _ _
  simp [bodyPost, results, Tryd.results22, go_sem, *]
  exact ⟨rfl, (by repeat (first | with_reducible exact Ext.refl _ | with_reducible apply Ext.drew | with_reducible apply Ext.drewN | with_reducible apply Ext.alloc | ((with_reducible refine Ext.setCell ?_ ?_ _); rotate_left; focus (first | (simp; done) | (simp; omega) | omega)) | with_reducible refine Ext.tr ?_ xa | with_reducible refine Ext.tr ?_ xc | with_reducible refine Ext.tr ?_ hx | with_reducible assumption))⟩
set_option maxHeartbeats 8000000 in
set_option maxRecDepth 100000 in
theorem parse_any {v : Value} {b : Bs} {w : World} (h : RowV w v (bytesV b)) (hb : b.length ≤ 8192) :
    Calls Tryd.prog 22 #[v] w fun e w' => ∃ dv, e = .returned (.tuple #[dv, .int .i64 ((parseS b).2 : Int), .int .i64 (if (parseS b).1.isSome then 0 else 1)]) ∧ Ext w w' ∧ ((parseS b).1 = none → dv = zeroDef) ∧ ∀ d, (parseS b).1 = some d → DefNew w.heap.size w' dv d := by
  obtain ⟨P, hP⟩ : ∃ P, parseS b = P := ⟨_, rfl⟩
  rw [hP]
  obtain ⟨E, hE⟩ : ∃ E : Int, (if P.1.isSome then 0 else 1) = E := ⟨_, rfl⟩
  rw [hE]
  have HP := Lib.hid hP
  have HE := Lib.hid hE
  clear hP hE
  have RW := Lib.hid h
  have CV := Lib.hid (fun u (x : Ext w u) => bytes_str (RW.out.ext x) 9 Tryd.underlying9)
  obtain ⟨a, cap, rfl, hcap, hmax, h3⟩ := h
  have hl : (bytesV b).length = b.length := by simp [bytesV]
  rw [hl] at hcap CV ⊢
  have hz : ¬ (8192 : Int) < (b.length : Int) := by omega
  clear h3 hmax hcap
  refine (callsIn_wide (n := 10)).1 ?_
  refine callsIn_of_wp_marks Tryd.func22 rfl trivial ?_
  simp only [Tryd.ntmps22, List.size_toArray, List.length_cons, List.length_nil, Nat.reduceAdd, Nat.reduceSub, Array.replicate_succ, Array.replicate_zero, List.push_toArray, List.append_toArray, List.nil_append, List.cons_append]
  refine wpIn_wide.2 ?_
  obtain ⟨V0, hV0⟩ : ∃ V0 : World, ((w.alloc (.cells #[.slice none 0 0, .slice none 0 0, .int .i64 0] 26)).alloc (.cells #[.slice none 0 0, .int .i64 0, .int .i64 64] 71)).alloc (.cells #[.pointer (some ⟨w.heap.size + 1, 0, none⟩)] 68) = V0 := ⟨_, rfl⟩
  have X0 : Ext w V0 := by rw [← hV0]; exact (by repeat (first | with_reducible exact Ext.refl _ | with_reducible apply Ext.drew | with_reducible apply Ext.drewN | with_reducible apply Ext.alloc | ((with_reducible refine Ext.setCell ?_ ?_ _); rotate_left; focus (first | (simp; done) | (simp; omega) | omega)) | with_reducible refine Ext.tr ?_ xa | with_reducible refine Ext.tr ?_ xc | with_reducible refine Ext.tr ?_ hx | with_reducible assumption))
  have s0 : V0.heap.size = w.heap.size + 3 := by rw [← hV0]; simp
  have BD0 := Lib.hid (show Blk V0 w.heap.size 26 #[.slice none 0 0, .slice none 0 0, .int .i64 0] by rw [← hV0]; exact ((Blk.new w _ _).alloc _).alloc _)
  have BR0 := Lib.hid (show Blk V0 (w.heap.size + 1) 71 #[.slice none 0 0, .int .i64 0, .int .i64 64] by
    rw [← hV0]
    have h1 := Blk.new (w.alloc (.cells #[.slice none 0 0, .slice none 0 0, .int .i64 0] 26)) 71 #[.slice none 0 0, .int .i64 0, .int .i64 64]
    rw [World.size_alloc] at h1
    exact h1.alloc _)
  have BP0 := Lib.hid (show Blk V0 (w.heap.size + 2) 68 #[.pointer (some ⟨w.heap.size + 1, 0, none⟩)] by
    rw [← hV0]
    have h1 := Blk.new ((w.alloc (.cells #[.slice none 0 0, .slice none 0 0, .int .i64 0] 26)).alloc (.cells #[.slice none 0 0, .int .i64 0, .int .i64 64] 71)) 68 #[.pointer (some ⟨w.heap.size + 1, 0, none⟩)]
    rw [World.size_alloc, World.size_alloc] at h1
    exact h1)
  have kc := CV.out V0 X0
  have LA := Lib.hid (lines_any (ba b) V0)
  have X0' := Lib.hid X0
  obtain ⟨S, hS⟩ : ∃ S, ba b = S := ⟨_, rfl⟩
  have HS := Lib.hid hS
  rw [hS] at kc LA
  clear X0 hS hl
  go_wp2_with fail
  refine LA.out.mono ?_
  rintro e V1 ⟨rfl, hV1⟩
  have X1 : Ext V0 V1 := by rw [hV1]; exact (Ext.refl _).alloc _
  have s1 : V1.heap.size = V0.heap.size + 1 := by rw [hV1]; simp
  have BB := Lib.hid (show Blk V1 V0.heap.size 9 #[.string S] by rw [hV1]; exact Blk.new V0 _ _)
  have X1' := Lib.hid X1
  clear hV1 hV0 kc LA X1
  go_wp2_with fail
  refine (wpIn_wide (n := 10)).1 ?_
  have PI0 := Lib.hid (show ParI w.heap.size V1 (.slice none 0 0) [] from ⟨BD0.out.ext X1'.out, BR0.out.ext X1'.out, BP0.out.ext X1'.out, ⟨World.ownsRow_nil _ _ _ _, fun i hi => by simp at hi⟩, by omega⟩)
  have XW1 := Lib.hid (X0'.out.tr X1'.out)
  rw [← HS.out, s0] at BB
  clear X1' BD0 BR0 BP0 X0'
  refine rangeY_iter rfl (by omega) (gf := 51) (lb := #[.pointer (some ⟨w.heap.size + 3, 0, none⟩)]) rfl trivial (enters_of Tryd.func51 (by kernel_rfl) rfl)
    (lines_iter 9 (by omega) b (by omega) (w.heap.size + 3) w V1 BB.out) (by omega)
    (fun h k => h.trans k) (fun W l o hl => KeptD.put W (by omega) (by omega)) (fun W o hl => KeptD.ext (Ext.alloc (Ext.refl _) _) (by omega) (by omega)) (fun _ => rfl)
    (fun pre W => (∃ lv, ParI w.heap.size W lv pre) ∧ Ext w W)
    (fun _ _ _ => False)
    (OwnFrom.and (fun s A B row hs hg hr => by
      obtain ⟨lv, h1⟩ := hs
      exact ⟨lv, h1.kept hg (fun r e => (hr r e).2)⟩) (ownFrom_below (Nat.le_refl _) (by omega)))
    (fun _ _ _ _ _ hs _ _ => hs)
    (fun s A B hs hg => by
      obtain ⟨⟨lv, h1⟩, hx⟩ := hs
      refine ⟨⟨lv, h1.grown hg (fun r e => by cases e; omega) (fun r e hv => by cases e; have := (h1.gat.own.lt _ hv).1; omega) (fun r e i hi hv => by cases e; have := ((h1.gat.row i hi).1.lt _ hv).1; omega)⟩, Ext.grown hx hg (fun k e => by cases e; omega)⟩)
    (fun _ _ _ _ hs _ => hs)
    ⟨⟨.slice none 0 0, PI0.out⟩, XW1.out⟩
    (fun pre W hp hi => by have := hp.len; omega) ?round ?done ?stop
  case round =>
    intro l pre x V W hsz hp hiV hi hY
    obtain ⟨xv, xL⟩ := x
    obtain ⟨hVW, hown⟩ := hY
    simp only at hown
    obtain ⟨⟨lv0, hpiV⟩, hxV⟩ := hiV
    have hlen := hp.len
    rw [List.length_append, List.length_singleton] at hlen
    have OX : W.ownsRow (w.heap.size + 4) 9 1 xv xL.length (strs xL) := own_base hown hpiV.sz
    have NX : ∀ q, xv.ownBlock = some q → lv0.ownBlock ≠ some q := fun q e e2 => by
      have a1 := (hown.lt q e).1
      have a2 := (hpiV.gat.own.lt q e2).2
      omega
    obtain ⟨xa, xc, rfl⟩ := own_form0 hown
    have HI := Lib.hid hi
    have PIW := Lib.hid (hpiV.ext hVW)
    have OXH := Lib.hid OX
    have NXH := Lib.hid NX
    clear hown OX NX hpiV hi hp hVW hxV
    gi_wp2
    refine ⟨Ext.keeps (Ext.refl _), KeptD.ext (Ext.refl _) (by omega) (by omega), HI.out, fun Y => ∃ lv, (ParI w.heap.size Y lv pre ∧ Y.ownsRow (w.heap.size + 4) 9 1 (.slice xa xL.length xc) xL.length (strs xL)) ∧ (∀ q, (Value.slice xa xL.length xc).ownBlock = some q → lv.ownBlock ≠ some q), ?_, ⟨lv0, ⟨PIW.out, OXH.out⟩, NXH.out⟩, fun W2 hlt hi2 hax => ?_⟩
    · intro s A B row hs hg hr
      obtain ⟨lv, ⟨h1, h2⟩, h3⟩ := hs
      refine ⟨lv, ⟨h1.kept hg (fun r e => (hr r e).2), own_grow h2 hg (fun r e hv => ?_)⟩, h3⟩
      obtain ⟨-, o, ho, hc⟩ := hr r e
      obtain ⟨c, h2'⟩ := own_cells h2 hv
      rw [h2'] at ho; cases ho; cases hc
    · obtain ⟨lv, ⟨hpi, hox⟩, hnx⟩ := hax
      obtain ⟨la, lc, rfl⟩ := own_form0 hpi.gat.own
      have XW2 := Lib.hid hi2.2
      have PI := Lib.hid hpi
      have OX := Lib.hid hox
      have NX := Lib.hid hnx
      have kp : W2.cell? ⟨w.heap.size + 1 + 1, 0, none⟩ = some (.pointer (some ⟨w.heap.size + 1, 0, none⟩)) := hpi.bp.cell 0
      have kr : W2.cell? ⟨w.heap.size + 1, 0, none⟩ = some (.slice la pre.length lc) := hpi.br.cell 0
      have fr := hpi.br.frozen 0
      have zr := hpi.br.lt
      have zp := hpi.bp.lt
      obtain ⟨i0, hi0, hz0, hz1, hz2⟩ := info_parts strsl_info
      have hn2 : pre.length + 1 ≤ maxLen := by unfold maxLen; omega
      have hn3 : (pre.length + 1) * 24 ≤ 140737488355328 := by omega
      have hbs := hpi.sz
      clear hpi hox hnx hi2 HI PIW OXH NXH
      gi_wp2
      --REG
      have XA := Lib.hid (show Ext W2 (W2.alloc (.cells #[.slice xa xL.length xc] 43)).drew from (by repeat (first | with_reducible exact Ext.refl _ | with_reducible apply Ext.drew | with_reducible apply Ext.drewN | with_reducible apply Ext.alloc | ((with_reducible refine Ext.setCell ?_ ?_ _); rotate_left; focus (first | (simp; done) | (simp; omega) | omega)) | with_reducible refine Ext.tr ?_ xa | with_reducible refine Ext.tr ?_ xc | with_reducible refine Ext.tr ?_ hx | with_reducible assumption)))
      have OWA := Lib.hid (own_old PI.out.gat.own XA.out)
      have FINH := Lib.hid (show ∀ (gg cc : Nat) (w1 : World), w1.ownsRow (w.heap.size + 4) 43 1 (Value.slice (some ⟨gg, 0, none⟩) (pre.length + 1) cc) (pre.length + 1) (pre.map (·.1) ++ [.slice xa xL.length xc]) → ((W2.alloc (.cells #[.slice xa xL.length xc] 43)).drew).grownBy w1 (Value.slice la pre.length lc).ownBlock → ((Value.slice la pre.length lc).ownBlock = some gg ∨ gg = W2.heap.size + 1) →
          w1.cell? ⟨w.heap.size + 1 + 1, 0, none⟩ = some (.pointer (some ⟨w.heap.size + 1, 0, none⟩)) ∧ w1.cell? ⟨w.heap.size + 1, 0, none⟩ = some (.slice la pre.length lc) ∧ w1.frozen? ⟨w.heap.size + 1, 0, none⟩ = false ∧ w.heap.size + 1 + 1 < w1.heap.size ∧
          (w1.setCell ⟨w.heap.size + 1, 0, none⟩ (Value.slice (some ⟨gg, 0, none⟩) (pre.length + 1) cc)).cell? ⟨w.heap.size + 1 + 1, 0, none⟩ = some (.pointer (some ⟨w.heap.size + 1, 0, none⟩)) ∧
          (KeepsOthers W2 (w1.setCell ⟨w.heap.size + 1, 0, none⟩ (Value.slice (some ⟨gg, 0, none⟩) (pre.length + 1) cc)) ∧ KeptD w (w.heap.size + 3) W2 (w1.setCell ⟨w.heap.size + 1, 0, none⟩ (Value.slice (some ⟨gg, 0, none⟩) (pre.length + 1) cc)) ∧ (∃ lv, ParI w.heap.size (w1.setCell ⟨w.heap.size + 1, 0, none⟩ (Value.slice (some ⟨gg, 0, none⟩) (pre.length + 1) cc)) lv (pre ++ [(.slice xa xL.length xc, xL)])) ∧ Ext w (w1.setCell ⟨w.heap.size + 1, 0, none⟩ (Value.slice (some ⟨gg, 0, none⟩) (pre.length + 1) cc))) from by
        intro gg cc w1 hown1 hgrow hat
        have hlo : ∀ q, (Value.slice la pre.length lc).ownBlock = some q → w.heap.size + 4 ≤ q ∧ q < W2.heap.size := fun q hq => PI.out.gat.own.lt q hq
        have g1 : W2.grownBy w1 (Value.slice la pre.length lc).ownBlock := ⟨hgrow.os.trans XA.out.os, hgrow.tape.trans XA.out.tape, hgrow.output.trans XA.out.output, Nat.le_trans XA.out.size hgrow.size, fun k hk hne => (hgrow.block k (Nat.lt_of_lt_of_le hk XA.out.size) hne).trans (XA.out.block k hk)⟩
        have bd := PI.out.bd.grown g1 (fun e => by have := (hlo _ e.symm).1; omega)
        have br := PI.out.br.grown g1 (fun e => by have := (hlo _ e.symm).1; omega)
        have bp := PI.out.bp.grown g1 (fun e => by have := (hlo _ e.symm).1; omega)
        have gs := PI.out.gat.snoc g1 OX.out NX.out hown1 (fun g e => by cases e; rcases hat with h | h; exact .inl h; exact .inr (by show W2.heap.size ≤ gg; omega))
        have gst := (GB.refl w1 (w.heap.size + 1)).set 0 (Value.slice (some ⟨gg, 0, none⟩) (pre.length + 1) cc)
        have s1 := g1.size
        have ge := gst.size
        refine ⟨bp.cell 0, br.cell 0, br.frozen 0, by have := bp.lt; omega, (bp.gb gst (by omega)).cell 0, ?_, ?_, ⟨(Value.slice (some ⟨gg, 0, none⟩) (pre.length + 1) cc), bd.gb gst (by omega), br.set_ 0 _, bp.gb gst (by omega), gs.grown gst (fun r e hv => by cases e; have := (gs.own.lt _ hv).1; omega) (fun r e i hi hv => by cases e; have := ((gs.row i hi).1.lt _ hv).1; omega), by omega⟩, ?_⟩
        · exact par_keeps PI.out.br PI.out.gat.own g1
        · refine ⟨by omega, ?_, fun k hk => ?_⟩
          · exact (gst.block _ (by omega) (fun e => by have := Option.some.inj e; omega)).trans (g1.block _ (by omega) (fun e => by have := (hlo _ e.symm).1; omega))
          · exact (gst.block _ (by omega) (fun e => by have := Option.some.inj e; omega)).trans (g1.block _ (by omega) (fun e => by have := (hlo _ e.symm).1; omega))
        · exact (Ext.grown XW2.out g1 (fun q hq => by have := (hlo q hq).1; omega)).setCell (by show w.heap.size ≤ w.heap.size + 1; omega) _)
      clear OX NX PI XA XW2
      refine region_round (fun Y => Y.cell? ⟨w.heap.size + 1 + 1, 0, none⟩ = some (.pointer (some ⟨w.heap.size + 1, 0, none⟩)) ∧ w.heap.size + 1 + 1 < Y.heap.size) (by kernel_rfl) (by kernel_rfl) (by rintro ⟨a, w, h⟩; exact h) ⟨kp, zp⟩ (fun hHeld => ?_)
      change wpAnyH _ _ _ _ _ 11 (Array.replicate 11 false) _ _
      refine wpAnyH_take (i := 0) (v := ?_) rfl (by kernel_rfl) (by kernel_rfl) (by kernel_rfl) (fun _ _ _ h => h) (Or.inl ⟨by kernel_rfl, ?_⟩) (by assumption) ?_
      rotate_left
      · (intro w hSw; (try dsimp only at hSw); obtain ⟨hS0, hS1⟩ := hSw; go_simp; (try with_reducible rfl))
      (try simp only [List.getElem_toArray, List.getElem_cons_zero, Act.put, List.setIfInBounds_toArray, List.set_cons_zero, List.set_cons_succ])
      refine wpAnyH_take (i := 1) (v := ?_) rfl (by kernel_rfl) (by kernel_rfl) (by kernel_rfl) (fun _ _ _ h => h) (Or.inl ⟨by kernel_rfl, ?_⟩) (by assumption) ?_
      rotate_left
      · (intro w hSw; (try dsimp only at hSw); obtain ⟨hS0, hS1⟩ := hSw; go_simp; (try with_reducible rfl))
      (try simp only [List.getElem_toArray, List.getElem_cons_succ, List.getElem_cons_zero, Act.put, List.setIfInBounds_toArray, List.set_cons_zero, List.set_cons_succ])
      refine wpAnyH_take (i := 2) (v := ?_) rfl (by kernel_rfl) (by kernel_rfl) (by kernel_rfl) (fun _ _ _ h => h) (Or.inl ⟨by kernel_rfl, ?_⟩) (by assumption) ?_
      rotate_left
      · (intro w hSw; (try dsimp only at hSw); obtain ⟨hS0, hS1⟩ := hSw; go_simp; (try with_reducible rfl))
      (try simp only [List.getElem_toArray, List.getElem_cons_succ, List.getElem_cons_zero, Act.put, List.setIfInBounds_toArray, List.set_cons_zero, List.set_cons_succ])
      refine wpAnyH_take (i := 3) (v := ?_) rfl (by kernel_rfl) (by kernel_rfl) (by kernel_rfl) (fun _ _ _ h => h) (Or.inl ⟨by kernel_rfl, ?_⟩) (by assumption) ?_
      rotate_left
      · (intro w hSw; (try dsimp only at hSw); obtain ⟨hS0, hS1⟩ := hSw; go_simp; (try with_reducible rfl))
      (try simp only [List.getElem_toArray, List.getElem_cons_succ, List.getElem_cons_zero, Act.put, List.setIfInBounds_toArray, List.set_cons_zero, List.set_cons_succ])
      refine wpAnyH_take (i := 5) (v := ?_) rfl (by kernel_rfl) (by kernel_rfl) (by kernel_rfl) (fun _ _ _ h => h) (Or.inl ⟨by kernel_rfl, ?_⟩) (by assumption) ?_
      rotate_left
      · (intro w hSw; (try dsimp only at hSw); obtain ⟨hS0, hS1⟩ := hSw; go_simp; (try with_reducible rfl))
      (try simp only [List.getElem_toArray, List.getElem_cons_succ, List.getElem_cons_zero, Act.put, List.setIfInBounds_toArray, List.set_cons_zero, List.set_cons_succ])
      refine wpAnyH_ready (rs := [4, 6]) (by kernel_rfl) (by simp) ?_
      refine AllReadyH.cons rfl (fun K hK => ?_) (AllReadyH.cons rfl (fun K hK => ?_) AllReadyH.nil)
      · go_simp
        refine hK.out _ _ ?_ (fun hHeld => ?_)
        · (try dsimp only); exact ⟨by first | (simp [go_sem, *]; done) | exact kp3 | exact kp4, by first | (simp [go_sem, *]; done) | (simp; omega) | omega⟩
        clear hK K
        (try simp only [List.getElem_toArray, List.getElem_cons_succ, List.getElem_cons_zero, Act.put, List.setIfInBounds_toArray, List.set_cons_zero, List.set_cons_succ])
        refine wpAnyH_ready (rs := [6]) (by kernel_rfl) (by simp) ?_
        refine AllReadyH.cons rfl (fun K hK => ?_) AllReadyH.nil
        go_simp
        refine hK.out _ _ ?_ (fun hHeld => ?_)
        · (try dsimp only); exact ⟨by first | (simp [go_sem, *]; done) | exact kp3 | exact kp4, by first | (simp [go_sem, *]; done) | (simp; omega) | omega⟩
        clear hK K
        (try simp only [List.getElem_toArray, List.getElem_cons_succ, List.getElem_cons_zero, Act.put, List.setIfInBounds_toArray, List.set_cons_zero, List.set_cons_succ])
        refine wpAnyH_ready (rs := [7]) (by kernel_rfl) (by simp) ?_
        refine AllReadyH.cons rfl (fun K hK => ?_) AllReadyH.nil
        refine step_append_lies _ rfl (.tmp 22) (.tmp 24) 69 rfl (w.heap.size + 4) 43 i0 (.slice none 0 0) 1 24 Tryd.underlying69 hi0 hz0 hz1 hz2 rfl (by decide) (.slice la pre.length lc) pre.length (pre.map (·.1)) (by simp [Act.eval]) (OWA.out) ⟨W2.heap.size, 0, none⟩ 1 1 [.slice xa xL.length xc] (by simp [Act.eval]) rfl (World.news_of_block (cs := #[.slice xa xL.length xc]) (t := 43) (fr := (0, 0)) (heap_alloc_new W2 _)) (by simp [Value.oneCell']) (by decide) hn2 hn3 (by simp; omega) (W2.heap.size + 1) (by simp) ?_
        intro gg cc w1 hown1 hgrow hat hlt1
        have FIN := FINH.out gg cc w1 hown1 hgrow hat
        have kp3 := FIN.1
        have kr3 := FIN.2.1
        have fr3 := FIN.2.2.1
        have zz3 := FIN.2.2.2.1
        have kp4 := FIN.2.2.2.2.1
        have FIN5 := Lib.hid FIN.2.2.2.2.2
        clear FIN hown1 hgrow hat FINH
        refine hK.out _ _ ?_ (fun hHeld => ?_)
        · (try dsimp only); exact ⟨by first | (simp [go_sem, *]; done) | exact kp3 | exact kp4, by first | (simp [go_sem, *]; done) | (simp; omega) | omega⟩
        clear hK K
        (try simp only [List.getElem_toArray, List.getElem_cons_succ, List.getElem_cons_zero, Act.put, List.setIfInBounds_toArray, List.set_cons_zero, List.set_cons_succ])
        refine wpAnyH_take (i := 8) (v := ?_) rfl (by kernel_rfl) (by kernel_rfl) (by kernel_rfl) (fun _ _ _ h => h) (Or.inl ⟨by kernel_rfl, ?_⟩) (by assumption) ?_
        rotate_left
        · (intro w hSw; (try dsimp only at hSw); obtain ⟨hS0, hS1⟩ := hSw; go_simp; (try with_reducible rfl))
        (try simp only [List.getElem_toArray, List.getElem_cons_succ, List.getElem_cons_zero, Act.put, List.setIfInBounds_toArray, List.set_cons_zero, List.set_cons_succ])
        refine wpAnyH_take (i := 9) (v := ?_) rfl (by kernel_rfl) (by kernel_rfl) (by kernel_rfl) (fun _ _ _ h => h) (Or.inl ⟨by kernel_rfl, ?_⟩) (by assumption) ?_
        rotate_left
        · (intro w hSw; (try dsimp only at hSw); obtain ⟨hS0, hS1⟩ := hSw; go_simp; (try with_reducible rfl))
        (try simp only [List.getElem_toArray, List.getElem_cons_succ, List.getElem_cons_zero, Act.put, List.setIfInBounds_toArray, List.set_cons_zero, List.set_cons_succ])
        refine wpAnyH_ready (rs := [10]) (by kernel_rfl) (by simp) ?_
        refine AllReadyH.cons rfl (fun K hK => ?_) AllReadyH.nil
        go_simp
        refine hK.out _ _ ?_ (fun hHeld => ?_)
        · (try dsimp only); exact ⟨by first | (simp [go_sem, *]; done) | exact kp3 | exact kp4, by first | (simp [go_sem, *]; done) | (simp; omega) | omega⟩
        clear hK K
        (try simp only [List.getElem_toArray, List.getElem_cons_succ, List.getElem_cons_zero, Act.put, List.setIfInBounds_toArray, List.set_cons_zero, List.set_cons_succ])
        refine wpAnyH_done (by kernel_rfl) ?_ _
        repeat gi_step
        exact ends_normal FIN5.out.1 FIN5.out.2.1 FIN5.out.2.2
      · go_simp
        refine hK.out _ _ ?_ (fun hHeld => ?_)
        · (try dsimp only); exact ⟨by first | (simp [go_sem, *]; done) | exact kp3 | exact kp4, by first | (simp [go_sem, *]; done) | (simp; omega) | omega⟩
        clear hK K
        (try simp only [List.getElem_toArray, List.getElem_cons_succ, List.getElem_cons_zero, Act.put, List.setIfInBounds_toArray, List.set_cons_zero, List.set_cons_succ])
        refine wpAnyH_ready (rs := [4]) (by kernel_rfl) (by simp) ?_
        refine AllReadyH.cons rfl (fun K hK => ?_) AllReadyH.nil
        go_simp
        refine hK.out _ _ ?_ (fun hHeld => ?_)
        · (try dsimp only); exact ⟨by first | (simp [go_sem, *]; done) | exact kp3 | exact kp4, by first | (simp [go_sem, *]; done) | (simp; omega) | omega⟩
        clear hK K
        (try simp only [List.getElem_toArray, List.getElem_cons_succ, List.getElem_cons_zero, Act.put, List.setIfInBounds_toArray, List.set_cons_zero, List.set_cons_succ])
        refine wpAnyH_ready (rs := [7]) (by kernel_rfl) (by simp) ?_
        refine AllReadyH.cons rfl (fun K hK => ?_) AllReadyH.nil
        refine step_append_lies _ rfl (.tmp 22) (.tmp 24) 69 rfl (w.heap.size + 4) 43 i0 (.slice none 0 0) 1 24 Tryd.underlying69 hi0 hz0 hz1 hz2 rfl (by decide) (.slice la pre.length lc) pre.length (pre.map (·.1)) (by simp [Act.eval]) (OWA.out) ⟨W2.heap.size, 0, none⟩ 1 1 [.slice xa xL.length xc] (by simp [Act.eval]) rfl (World.news_of_block (cs := #[.slice xa xL.length xc]) (t := 43) (fr := (0, 0)) (heap_alloc_new W2 _)) (by simp [Value.oneCell']) (by decide) hn2 hn3 (by simp; omega) (W2.heap.size + 1) (by simp) ?_
        intro gg cc w1 hown1 hgrow hat hlt1
        have FIN := FINH.out gg cc w1 hown1 hgrow hat
        have kp3 := FIN.1
        have kr3 := FIN.2.1
        have fr3 := FIN.2.2.1
        have zz3 := FIN.2.2.2.1
        have kp4 := FIN.2.2.2.2.1
        have FIN5 := Lib.hid FIN.2.2.2.2.2
        clear FIN hown1 hgrow hat FINH
        refine hK.out _ _ ?_ (fun hHeld => ?_)
        · (try dsimp only); exact ⟨by first | (simp [go_sem, *]; done) | exact kp3 | exact kp4, by first | (simp [go_sem, *]; done) | (simp; omega) | omega⟩
        clear hK K
        (try simp only [List.getElem_toArray, List.getElem_cons_succ, List.getElem_cons_zero, Act.put, List.setIfInBounds_toArray, List.set_cons_zero, List.set_cons_succ])
        refine wpAnyH_take (i := 8) (v := ?_) rfl (by kernel_rfl) (by kernel_rfl) (by kernel_rfl) (fun _ _ _ h => h) (Or.inl ⟨by kernel_rfl, ?_⟩) (by assumption) ?_
        rotate_left
        · (intro w hSw; (try dsimp only at hSw); obtain ⟨hS0, hS1⟩ := hSw; go_simp; (try with_reducible rfl))
        (try simp only [List.getElem_toArray, List.getElem_cons_succ, List.getElem_cons_zero, Act.put, List.setIfInBounds_toArray, List.set_cons_zero, List.set_cons_succ])
        refine wpAnyH_take (i := 9) (v := ?_) rfl (by kernel_rfl) (by kernel_rfl) (by kernel_rfl) (fun _ _ _ h => h) (Or.inl ⟨by kernel_rfl, ?_⟩) (by assumption) ?_
        rotate_left
        · (intro w hSw; (try dsimp only at hSw); obtain ⟨hS0, hS1⟩ := hSw; go_simp; (try with_reducible rfl))
        (try simp only [List.getElem_toArray, List.getElem_cons_succ, List.getElem_cons_zero, Act.put, List.setIfInBounds_toArray, List.set_cons_zero, List.set_cons_succ])
        refine wpAnyH_ready (rs := [10]) (by kernel_rfl) (by simp) ?_
        refine AllReadyH.cons rfl (fun K hK => ?_) AllReadyH.nil
        go_simp
        refine hK.out _ _ ?_ (fun hHeld => ?_)
        · (try dsimp only); exact ⟨by first | (simp [go_sem, *]; done) | exact kp3 | exact kp4, by first | (simp [go_sem, *]; done) | (simp; omega) | omega⟩
        clear hK K
        (try simp only [List.getElem_toArray, List.getElem_cons_succ, List.getElem_cons_zero, Act.put, List.setIfInBounds_toArray, List.set_cons_zero, List.set_cons_succ])
        refine wpAnyH_done (by kernel_rfl) ?_ _
        repeat gi_step
        exact ends_normal FIN5.out.1 FIN5.out.2.1 FIN5.out.2.2
      --END
  case done =>
    rintro Dn xs W hD hS ⟨⟨lv, hpi⟩, hx⟩ hK
    obtain ⟨LL, hLL⟩ : ∃ LL, (cutAt 10 b).dropLast.map wordsS = LL := ⟨_, rfl⟩
    rw [hLL] at hS
    have hPS : parseS b = parseP LL (restB b) := by unfold parseS; rw [if_neg (by omega), hLL]
    have hLn : LL.length ≤ 100000 := by rw [← hLL]; have := cutAt_len (c := 10) b; simp; omega
    have hLw : ∀ L ∈ LL, ∀ x ∈ L, x.length ≤ 100000 := by
      intro L hL x hx
      rw [← hLL] at hL
      obtain ⟨l, hl, rfl⟩ := List.mem_map.1 hL
      have h1 := wordsS_mem hx
      have h2 := cutAt_mem (List.dropLast_subset _ hl)
      omega
    have RD := Lib.hid (show ReadAt W (w.heap.size + 1) lv LL 0 64 from ⟨hpi.br, by rw [← hS]; exact hpi.gat.lines (by omega)⟩)
    have WH := Lib.hid (dwhole_any RD.out hLn hLw)
    have PS := Lib.hid (HP.out.symm.trans (hPS.trans (parseP_whole LL (restB b))))
    have PI := Lib.hid hpi
    have HK := Lib.hid hK
    have HX := Lib.hid hx
    have hDw : Dn < W.heap.size := (Array.getElem?_eq_some_iff.1 hK).1
    have kp : W.cell? ⟨w.heap.size + 1 + 1, 0, none⟩ = some (.pointer (some ⟨w.heap.size + 1, 0, none⟩)) := hpi.bp.cell 0
    have d0 : W.cell? ⟨w.heap.size, 0, none⟩ = some (.slice none 0 0) := hpi.bd.cell 0
    have zs := hpi.sz
    clear hS hLL hPS hLn hLw hpi hK hx BB
    go_wp2_with fail
    refine WH.out.mono ?_
    rintro e' W3 ⟨dv, ok, rfl, res⟩
    clear WH
    obtain ⟨da, dn, dc, da', dn', dc', dz, rfl⟩ := res.sh
    have g3 := res.gb
    have bd3 : Blk W3 w.heap.size 26 #[.slice none 0 0, .slice none 0 0, .int .i64 0] := PI.out.bd.gb g3 (by omega)
    have bp3 : Blk W3 (w.heap.size + 2) 68 #[.pointer (some ⟨w.heap.size + 1, 0, none⟩)] := PI.out.bp.gb g3 (by omega)
    have e0 : W3.cell? ⟨w.heap.size, 0, none⟩ = some (.slice none 0 0) := bd3.cell 0
    have e1 : W3.cell? ⟨w.heap.size, 1, none⟩ = some (.slice none 0 0) := bd3.cell 1
    have e2 : W3.cell? ⟨w.heap.size, 2, none⟩ = some (.int .i64 0) := bd3.cell 2
    have f0 := bd3.frozen 0
    have f1 := bd3.frozen 1
    have f2 := bd3.frozen 2
    have kp3 : W3.cell? ⟨w.heap.size + 1 + 1, 0, none⟩ = some (.pointer (some ⟨w.heap.size + 1, 0, none⟩)) := bp3.cell 0
    have z3 := g3.size
    obtain ⟨left, rd⟩ := res.rd
    obtain ⟨lva, lvc, rfl, -⟩ := rd.lines
    obtain ⟨W4, hW4⟩ : ∃ W4 : World, ((W3.setCell ⟨w.heap.size, 0, none⟩ (.slice da dn dc)).setCell ⟨w.heap.size, 1, none⟩ (.slice da' dn' dc')).setCell ⟨w.heap.size, 2, none⟩ (.int .i64 dz) = W4 := ⟨_, rfl⟩
    have gg4 : GB W3 W4 w.heap.size := by rw [← hW4]; exact (((GB.refl W3 w.heap.size).set 0 _).set 1 _).set 2 _
    have BD4 := Lib.hid (show Blk W4 w.heap.size 26 #[.slice da dn dc, .slice da' dn' dc', .int .i64 dz] by rw [← hW4]; exact ((bd3.set_ 0 _).set_ 1 _).set_ 2 _)
    have BP4 := Lib.hid (bp3.gb gg4 (by omega))
    have BR4 := Lib.hid (rd.blk.gb gg4 (by omega))
    have XW4 := Lib.hid ((Ext.grown HX.out g3 (fun k e => by cases e; omega)).grown gg4 (fun k e => by cases e; omega))
    have HK4 := Lib.hid (show W4.heap[Dn]? = some (.deferred (some [])) from (gg4.block Dn (by omega) (fun e => by have := Option.some.inj e; omega)).trans ((g3.block Dn hDw (fun e => by have := Option.some.inj e; omega)).trans HK.out))
    have z4 := gg4.size
    have kp4 : W4.cell? ⟨w.heap.size + 1 + 1, 0, none⟩ = some (.pointer (some ⟨w.heap.size + 1, 0, none⟩)) := BP4.out.cell 0
    have r0 : W4.cell? ⟨w.heap.size + 1, 0, none⟩ = some (.slice lva LL.length lvc) := BR4.out.cell 0
    have r1 := BR4.out.cell 1
    have g0 : W4.cell? ⟨w.heap.size, 0, none⟩ = some (.slice da dn dc) := BD4.out.cell 0
    have g1 : W4.cell? ⟨w.heap.size, 1, none⟩ = some (.slice da' dn' dc') := BD4.out.cell 1
    have g2 : W4.cell? ⟨w.heap.size, 2, none⟩ = some (.int .i64 dz) := BD4.out.cell 2
    have q0 := BD4.out.frozen 0
    have q1 := BD4.out.frozen 1
    have q2 := BD4.out.frozen 2
    have hDn : w.heap.size + 3 < Dn := by omega
    have hDn4 : Dn < W4.heap.size := by omega
    have HX2 := Lib.hid zs
    have hno := Lib.hid res.no
    have hyes := Lib.hid res.yes
    have G34 := Lib.hid gg4
    have Z3 := Lib.hid g3.size
    clear kp d0 rd gg4 bd3 bp3 g3 res HX HK PI RD
    obtain ⟨⟨o, i⟩, hwp⟩ : ∃ p, wholeP LL = p := ⟨_, rfl⟩
    rw [hwp] at hno hyes PS r1 BR4
    simp only at hno hyes PS r1 BR4
    change W4.cell? ⟨w.heap.size + 1, 1, none⟩ = some (.int .i64 i) at r1
    clear hwp
    cases o with
    | none =>
      obtain rfl : ok = false := hno.out rfl
      clear hno hyes
      go_wp2_with fail
      clear e0 e1 e2 f0 f1 f2 kp3 hW4
      refine wp_endOnly ?_
      have PE : P = (none, i) := PS.out
      have EE : E = 1 := by rw [← HE.out, PE]; rfl
      have PF := Lib.hid (fun (V : World) (hV : V.heap = W4.heap) (hx : Ext w V) => par_fin (w := w) (V := V) (x := .slice none 0 0) (y := .slice none 0 0) (z := .int .i64 0) (show Blk V w.heap.size 26 #[.slice da dn dc, .slice da' dn' dc', .int .i64 dz] by unfold Blk; rw [hV]; exact BD4.out) (by rw [hV]; exact HK4.out) hx rfl (by omega))
      clear PS HP HE
      subst PE
      subst EE
      go_region
      all_goals
        refine EndOnly.mk ?_
        go_wp2_with fail
        obtain ⟨k1, k2, k3⟩ := PF.out W4 rfl XW4.out
        change bodyPostM _ _ _ _ _ _ _ _
        refine ⟨by simp, .inl ⟨_, _, rfl, run_takeDeferred k1, ?_⟩⟩
        generalize hWp : World.putObj _ Dn (.deferred none) = Wp
        have c0 : Wp.cell? ⟨w.heap.size, 0, none⟩ = some (.slice none 0 0) := by rw [← hWp]; exact k2.cell 0
        have c1 : Wp.cell? ⟨w.heap.size, 1, none⟩ = some (.slice none 0 0) := by rw [← hWp]; exact k2.cell 1
        have c2 : Wp.cell? ⟨w.heap.size, 2, none⟩ = some (.int .i64 0) := by rw [← hWp]; exact k2.cell 2
        refine ⟨.tuple #[zeroDef, .int .i64 i, .int .i64 1], ?_, rfl, by rw [← hWp]; exact ⟨k3.os, k3.tape, k3.output, k3.size, k3.block⟩⟩
        simp [results, Tryd.results22, go_sem, c0, c1, c2, zeroDef]
    | some d =>
      obtain ⟨rfl, hdn⟩ := hyes.out d rfl
      have DN4 : Hid (∀ (V : World), V.heap = W4.heap → ∀ x y z, DefNew w.heap.size ((((V.setCell ⟨w.heap.size, 0, none⟩ x).setCell ⟨w.heap.size, 1, none⟩ y).setCell ⟨w.heap.size, 2, none⟩ z).putObj Dn (.deferred none)) (.agg #[.slice da dn dc, .slice da' dn' dc', .int .i64 dz]) d) := Lib.hid (fun V hV x y z => par_def hdn G34.out hDw (by have := HX2.out; omega) hV)
      clear hno hyes hdn
      rcases List.eq_nil_or_concat b with hbn | ⟨l, y, hbl⟩
      · have hrest : restB b = [] := by rw [hbn]; rfl
        have hb0 : ¬ (0 : Int) < (b.length : Int) := by rw [hbn]; simp
        have PE : P = (some d, 0) := by have := PS.out; simp only at this; rw [if_neg (by rw [hrest]; simp)] at this; exact this
        have EE : E = 0 := by rw [← HE.out, PE]; rfl
        have PF := Lib.hid (fun (V : World) (hV : V.heap = W4.heap) (hx : Ext w V) => par_fin (w := w) (V := V) (x := .slice da dn dc) (y := .slice da' dn' dc') (z := .int .i64 dz) (show Blk V w.heap.size 26 #[.slice da dn dc, .slice da' dn' dc', .int .i64 dz] by unfold Blk; rw [hV]; exact BD4.out) (by rw [hV]; exact HK4.out) hx rfl (by omega))
        clear PS HP HE
        subst PE
        subst EE
        go_wp2_with fail
        obtain ⟨k1, k2, k3⟩ := PF.out W4 rfl XW4.out
        have dn5 := DN4.out W4 rfl (.slice da dn dc) (.slice da' dn' dc') (.int .i64 dz)
        change bodyPostM _ _ _ _ _ _ _ _
        refine ⟨by simp, .inl ⟨_, _, rfl, run_takeDeferred k1, ?_⟩⟩
        generalize hWp : World.putObj _ Dn (.deferred none) = Wp at *
        have c0 := k2.cell 0
        have c1 := k2.cell 1
        have c2 := k2.cell 2
        refine ⟨.tuple #[.agg #[.slice da dn dc, .slice da' dn' dc', .int .i64 dz], .int .i64 0, .int .i64 0], ?_, _, rfl, k3, dn5⟩
        simp [results, Tryd.results22, go_sem, c0, c1, c2]
      · rw [List.concat_eq_append] at hbl
        have hbn : b.length = l.length + 1 := by rw [hbl]; simp
        have hb0 : (0 : Int) < (b.length : Int) := by omega
        have wb : IntKind.i64.wrap ((b.length : Int) - 1) = (l.length : Int) := by rw [IntKind.wrap_i64]; omega
        have hlb : (l.length : Int) < (b.length : Int) := by omega
        obtain ⟨a', c', e', -, -, h3⟩ := RW.out
        injection e' with e1' _ _
        subst e1'
        obtain ⟨gb, ob, rfl, hcb⟩ := h3 (by rw [hbl]; simp [bytesV])
        have kb := XW4.out.cell ((hcb l.length (by rw [hbl]; simp [bytesV])).trans (show (bytesV b)[l.length]? = some (.int .u8 (y.toNat : Int)) by rw [hbl]; simp [bytesV]))
        have zb := cell_lt kb
        simp only at zb
        clear hcb h3 hbn
        by_cases hy : y = 10
        · have hrest : restB b = [] := by rw [hbl]; exact (restB_snoc l y).2 hy
          have ny : ((y.toNat : Int) != 10) = false := by rw [hy]; rfl
          clear hbl hy
          have PE : P = (some d, 0) := by have := PS.out; simp only at this; rw [if_neg (by rw [hrest]; simp)] at this; exact this
          have EE : E = 0 := by rw [← HE.out, PE]; rfl
          have PF := Lib.hid (fun (V : World) (hV : V.heap = W4.heap) (hx : Ext w V) => par_fin (w := w) (V := V) (x := .slice da dn dc) (y := .slice da' dn' dc') (z := .int .i64 dz) (show Blk V w.heap.size 26 #[.slice da dn dc, .slice da' dn' dc', .int .i64 dz] by unfold Blk; rw [hV]; exact BD4.out) (by rw [hV]; exact HK4.out) hx rfl (by omega))
          clear PS HP HE
          subst PE
          subst EE
          go_wp2_with fail
          obtain ⟨k1, k2, k3⟩ := PF.out W4 rfl XW4.out
          have dn5 := DN4.out W4 rfl (.slice da dn dc) (.slice da' dn' dc') (.int .i64 dz)
          change bodyPostM _ _ _ _ _ _ _ _
          refine ⟨by simp, .inl ⟨_, _, rfl, run_takeDeferred k1, ?_⟩⟩
          generalize hWp : World.putObj _ Dn (.deferred none) = Wp at *
          have c0 := k2.cell 0
          have c1 := k2.cell 1
          have c2 := k2.cell 2
          refine ⟨.tuple #[.agg #[.slice da dn dc, .slice da' dn' dc', .int .i64 dz], .int .i64 0, .int .i64 0], ?_, _, rfl, k3, dn5⟩
          simp [results, Tryd.results22, go_sem, c0, c1, c2]
        · have hrest : restB b ≠ [] := by rw [hbl]; exact fun h => hy ((restB_snoc l y).1 h)
          have ny := (byte_ne hy).1
          rw [show ((10 : UInt8).toNat : Int) = 10 by rfl] at ny
          clear hbl hy
          have PE : P = (none, LL.length) := by have := PS.out; simp only at this; rw [if_pos hrest] at this; exact this
          have EE : E = 1 := by rw [← HE.out, PE]; rfl
          have PF := Lib.hid (fun (V : World) (hV : V.heap = W4.heap) (hx : Ext w V) => par_fin (w := w) (V := V) (x := .slice none 0 0) (y := .slice none 0 0) (z := .int .i64 0) (show Blk V w.heap.size 26 #[.slice da dn dc, .slice da' dn' dc', .int .i64 dz] by unfold Blk; rw [hV]; exact BD4.out) (by rw [hV]; exact HK4.out) hx rfl (by omega))
          clear PS HP HE
          subst PE
          subst EE
          go_wp2_with fail
          clear e0 e1 e2 f0 f1 f2 kp3 hW4
          refine wp_endOnly ?_
          go_region
          all_goals
            refine EndOnly.mk ?_
            go_wp2_with fail
            obtain ⟨k1, k2, k3⟩ := PF.out W4 rfl XW4.out
            change bodyPostM _ _ _ _ _ _ _ _
            refine ⟨by simp, .inl ⟨_, _, rfl, run_takeDeferred k1, ?_⟩⟩
            generalize hWp : World.putObj _ Dn (.deferred none) = Wp
            have c0 : Wp.cell? ⟨w.heap.size, 0, none⟩ = some (.slice none 0 0) := by rw [← hWp]; exact k2.cell 0
            have c1 : Wp.cell? ⟨w.heap.size, 1, none⟩ = some (.slice none 0 0) := by rw [← hWp]; exact k2.cell 1
            have c2 : Wp.cell? ⟨w.heap.size, 2, none⟩ = some (.int .i64 0) := by rw [← hWp]; exact k2.cell 2
            refine ⟨.tuple #[zeroDef, .int .i64 LL.length, .int .i64 1], ?_, rfl, by rw [← hWp]; exact ⟨k3.os, k3.tape, k3.output, k3.size, k3.block⟩⟩
            simp [results, Tryd.results22, go_sem, c0, c1, c2, zeroDef]
  case stop => exact fun D c' pre W hD hp h => h.elim
end Go.Proofs.YtfimmcnfmipnlaaDoor
