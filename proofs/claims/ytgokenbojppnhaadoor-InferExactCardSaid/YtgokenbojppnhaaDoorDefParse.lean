/- def.Parse. -/
import Derived.Test.YtgokenbojppnhaaDoorDefWhole
import Derived.Test.YtgokenbojppnhaaDoorDefLines
import Derived.Test.YtgokenbojppnhaaDoorIterG
import Derived.Laws.IdiomStrings
import Derived.Laws.BytesArg
import Derived.Deep.AppendLies
namespace Go.Proofs.YtgokenbojppnhaaDoor
open Go.RowKit Go.Shelf
attribute [local go_sem] Oper.semAt_some
/-- Bytes, as a row's values. -/
def bytesV (b : Bs) : List Value := b.map (fun x => Value.int .u8 (x.toNat : Int))
/-- What is behind the last line. -/
def restB (b : Bs) : Bs := (cutAt 10 b).getLastD []
/-- What a text says. -/
def parseS (b : Bs) : Option DefL × Nat := if 8192 < b.length then (none, 0) else parseP ((cutAt 10 b).dropLast.map wordsS) (restB b)
theorem restB_nil : restB [] = [] := rfl
theorem restB_snoc (l : Bs) (x : UInt8) : restB (l ++ [x]) = [] ↔ x = 10 := by
  obtain ⟨h, t, e⟩ := cutAt_some 10 l
  obtain ⟨L, y, e2⟩ : ∃ L y, cutAt 10 l = L ++ [y] := ⟨(cutAt 10 l).dropLast, (cutAt 10 l).getLast (by rw [e]; simp), (List.dropLast_concat_getLast _).symm⟩
  unfold restB
  rw [cutAt_one e2]
  by_cases hx : x = 10
  · rw [if_pos hx]; simp [hx]
  · rw [if_neg hx]; simp [hx]
theorem bytes_str {w : World} {v : Value} {b : Bs} (h : RowV w v (bytesV b)) : ∀ dst, Tryd.prog.underlying dst = some .string → (convert 106 dst v).run Tryd.prog w = .ok (.string (ba b)) w := by
  intro dst hd
  obtain ⟨a, cap, rfl, -, -, h3⟩ := h
  cases b with
  | nil =>
    cases a with
    | none => exact run_convert_bytes_nil (P := Tryd.prog) w 106 5 Tryd.underlying106 Tryd.underlying5 _ _ dst hd
    | some p => exact run_convert_bytes_back (P := Tryd.prog) w 106 dst 5 p cap [] Tryd.underlying106 Tryd.underlying5 hd (fun j hj => by simp at hj)
  | cons x xs =>
    obtain ⟨g, o, rfl, hc⟩ := h3 (by simp [bytesV])
    have := run_convert_bytes_back (P := Tryd.prog) w 106 dst 5 ⟨g, o, none⟩ cap (x :: xs) Tryd.underlying106 Tryd.underlying5 hd (fun j hj => by
      have := hc j (by simpa [bytesV] using hj)
      have e : (⟨g, o, none⟩ : Addr).add j = ⟨g, o + j, none⟩ := by unfold Addr.add; split <;> simp_all
      rw [e, this]
      simp only [bytesV, List.getElem?_map, List.getElem?_eq_getElem hj, Option.map_some])
    have hl : (bytesV (x :: xs)).length = (x :: xs).length := by simp [bytesV]
    rw [hl]
    exact this
/-- Rows of words that are gathered. -/
structure GatAt (base : Nat) (W : World) (lv : Value) (pre : List (Value × List Bs)) : Prop where
  own : W.ownsRow base 91 1 lv pre.length (pre.map (·.1))
  row : ∀ i (h : i < pre.length), W.ownsRow base 9 1 pre[i].1 pre[i].2.length (strs pre[i].2) ∧ ∀ q, pre[i].1.ownBlock = some q → lv.ownBlock ≠ some q
theorem own_grow {W W' : World} {base : Nat} {e : TypeId} {size : Nat} {v : Value} {n : Nat} {xs : List Value} {row : Option Nat} (h : W.ownsRow base e size v n xs) (hg : W.grownBy W' row) (hr : ∀ r, row = some r → v.ownBlock ≠ some r) : W'.ownsRow base e size v n xs :=
  h.kept hg (by
    cases hv : v.ownBlock with
    | none => exact .inl rfl
    | some q => exact .inr (fun e => hr q e.symm hv))
theorem GatAt.grown {base : Nat} {W W' : World} {lv : Value} {pre : List (Value × List Bs)} {row : Option Nat} (h : GatAt base W lv pre) (hg : W.grownBy W' row) (h1 : ∀ r, row = some r → lv.ownBlock ≠ some r) (h2 : ∀ r, row = some r → ∀ i (hi : i < pre.length), pre[i].1.ownBlock ≠ some r) : GatAt base W' lv pre :=
  ⟨own_grow h.own hg h1, fun i hi => ⟨own_grow (h.row i hi).1 hg (fun r e => h2 r e i hi), (h.row i hi).2⟩⟩
theorem GatAt.snoc {base : Nat} {W W' : World} {lv v' xv : Value} {xL : List Bs} {pre : List (Value × List Bs)} (h : GatAt base W lv pre) (hg : W.grownBy W' lv.ownBlock) (hx : W.ownsRow base 9 1 xv xL.length (strs xL)) (hne : ∀ q, xv.ownBlock = some q → lv.ownBlock ≠ some q)
    (ho : W'.ownsRow base 91 1 v' (pre.length + 1) (pre.map (·.1) ++ [xv])) (hb : ∀ g, v'.ownBlock = some g → lv.ownBlock = some g ∨ W.heap.size ≤ g) : GatAt base W' v' (pre ++ [(xv, xL)]) := by
  refine ⟨by simpa using ho, fun i hi => ?_⟩
  have old : ∀ {yv : Value} {yL : List Bs}, W.ownsRow base 9 1 yv yL.length (strs yL) → (∀ q, yv.ownBlock = some q → lv.ownBlock ≠ some q) → W'.ownsRow base 9 1 yv yL.length (strs yL) ∧ ∀ q, yv.ownBlock = some q → v'.ownBlock ≠ some q := fun hy hn =>
    ⟨own_grow hy hg (fun r e e2 => hn r e2 e), fun q e e2 => by
      rcases hb q e2 with h' | h'
      · exact hn q e h'
      · have := (hy.lt q e).2; omega⟩
  rcases Nat.lt_or_ge i pre.length with hlt | hge
  · rw [List.getElem_append_left hlt]
    exact old (h.row i hlt).1 (h.row i hlt).2
  · have : i = pre.length := by simp at hi; omega
    subst this
    have e : (pre ++ [(xv, xL)])[pre.length]'hi = (xv, xL) := by simp
    rw [e]
    exact old hx hne
theorem GatAt.lines {base R : Nat} {W : World} {lv : Value} {pre : List (Value × List Bs)} (h : GatAt base W lv pre) (hR : R < base) : LinesAt R W lv (pre.map (·.2)) := by
  rcases h.own.2 with ⟨rfl, h0⟩ | ⟨g, cap, cur, rfl, hb, hg, h1, h2, -, -⟩
  · have : pre = [] := List.eq_nil_of_length_eq_zero h0
    subst this
    exact ⟨none, 0, rfl, by simp, by simp [maxLen], fun h => absurd rfl h⟩
  · refine ⟨_, cap, by simp, by simpa using h1, h2, fun _ => ⟨g, 0, rfl, by omega, fun i hi => ?_⟩⟩
    have hi' : i < pre.length := by simpa using hi
    obtain ⟨r1, r2⟩ := h.row i hi'
    obtain ⟨a, c, e⟩ := own_form0 r1
    refine ⟨a, c, ?_, ?_, fun q e2 => ?_⟩
    · rw [Nat.zero_add, h.own.cellAt i (by omega)]
      simp only [List.getElem?_map, List.getElem?_eq_getElem hi', Option.map_some, List.getElem_map]
      rw [e]
    · rw [List.getElem_map, ← e]; exact RowV.of_owns r1
    · have := (r1.lt q.block (by rw [e, e2]; rfl)).1; omega
theorem own_cells {W : World} {base : Nat} {e : TypeId} {size : Nat} {v : Value} {n : Nat} {xs : List Value} (h : W.ownsRow base e size v n xs) {r : Nat} (hv : v.ownBlock = some r) : ∃ c, W.heap[r]? = some (.cells c e (0, 0)) := by
  rcases h.2 with ⟨rfl, _⟩ | ⟨g, cap, cur, rfl, _, hg, _⟩
  · cases hv
  · cases hv; exact ⟨cur, hg⟩
theorem par_keeps {W w1 : World} {R base n : Nat} {v u : Value} {cs : Array Value} {xs : List Value} {t e : TypeId} (hR : Blk W R t cs) (ho : W.ownsRow base e 1 v n xs) (hg : W.grownBy w1 v.ownBlock) : KeepsOthers W (w1.setCell ⟨R, 0, none⟩ u) :=
  ⟨Nat.le_trans hg.size (KeepsWalks.setCell w1 _ u).size, fun k o hk hc => by
    have hlt := (Array.getElem?_eq_some_iff.1 hk).1
    have h1 : k ≠ R := fun e => by rw [e] at hk; unfold Blk at hR; rw [hR] at hk; cases hk; cases hc
    rw [Below.heap_setCell w1 ⟨R, 0, none⟩ u k h1, hg.block k hlt (fun e => by
      obtain ⟨c, h2⟩ := own_cells ho e.symm
      rw [h2] at hk; cases hk; cases hc)]
    exact hk⟩
theorem cutAt_mem {c : UInt8} : ∀ {s x : Bs}, x ∈ cutAt c s → x.length ≤ s.length
  | [], x, h => by simp [cutAt] at h; subst h; simp
  | y :: s, x, h => by
    obtain ⟨p, q, e⟩ := cutAt_some c s
    have ih := fun z (hz : z ∈ cutAt c s) => cutAt_mem hz
    rw [cutAt_cons] at h
    split at h
    · rcases List.mem_cons.1 h with rfl | h
      · simp
      · have := ih x h; simp; omega
    · rw [e] at h ih
      simp only [List.modifyHead_cons] at h
      rcases List.mem_cons.1 h with rfl | h
      · have := ih p (by simp); simp; omega
      · have := ih x (by simp [h]); simp; omega
theorem wordsS_mem {s x : Bs} (h : x ∈ wordsS s) : x.length ≤ s.length := by
  unfold wordsS at h
  split at h
  · simp at h
  · exact cutAt_mem h
theorem par_fin {n0 Dn : Nat} {w V : World} {x y z a b c : Value} (hb : Blk V n0 27 #[a, b, c]) (hk : V.heap[Dn]? = some (.deferred (some []))) (hx : Ext w V) (hn : w.heap.size = n0) (hD : n0 < Dn) :
    (((V.setCell ⟨n0, 0, none⟩ x).setCell ⟨n0, 1, none⟩ y).setCell ⟨n0, 2, none⟩ z).heap[Dn]? = some (.deferred (some [])) ∧ Blk ((((V.setCell ⟨n0, 0, none⟩ x).setCell ⟨n0, 1, none⟩ y).setCell ⟨n0, 2, none⟩ z).putObj Dn (.deferred none)) n0 27 #[x, y, z] ∧ Ext w ((((V.setCell ⟨n0, 0, none⟩ x).setCell ⟨n0, 1, none⟩ y).setCell ⟨n0, 2, none⟩ z).putObj Dn (.deferred none)) := by
  have hne : Dn ≠ n0 := by omega
  have hK := (Below.heap_setCell ((V.setCell ⟨n0, 0, none⟩ x).setCell ⟨n0, 1, none⟩ y) ⟨n0, 2, none⟩ z Dn hne).trans ((Below.heap_setCell (V.setCell ⟨n0, 0, none⟩ x) ⟨n0, 1, none⟩ y Dn hne).trans ((Below.heap_setCell V ⟨n0, 0, none⟩ x Dn hne).trans hk))
  have hB : Blk (((V.setCell ⟨n0, 0, none⟩ x).setCell ⟨n0, 1, none⟩ y).setCell ⟨n0, 2, none⟩ z) n0 27 #[x, y, z] := ((hb.set_ 0 x).set_ 1 y).set_ 2 z
  have hX : Ext w (((V.setCell ⟨n0, 0, none⟩ x).setCell ⟨n0, 1, none⟩ y).setCell ⟨n0, 2, none⟩ z) := ((hx.setCell (by show _ ≤ n0; omega) x).setCell (by show _ ≤ n0; omega) y).setCell (by show _ ≤ n0; omega) z
  exact ⟨hK, (World.putObj_heap_other (fun e => hne e.symm)).trans hB, hX.trans (belowK_b (w := w) (Nat.le_refl _) _ Dn _ _ (by omega) hK rfl rfl)⟩
theorem par_def {w W W3 W4 V : World} {Dn : Nat} {dv : Value} {d : DefL} {x y z : Value} (h : DefNew W.heap.size W3 dv d) (h1 : GB W3 W4 w.heap.size) (hD : Dn < W.heap.size) (hw : w.heap.size + 4 ≤ W.heap.size) (hV : V.heap = W4.heap) :
    DefNew w.heap.size ((((V.setCell ⟨w.heap.size, 0, none⟩ x).setCell ⟨w.heap.size, 1, none⟩ y).setCell ⟨w.heap.size, 2, none⟩ z).putObj Dn (.deferred none)) dv d := by
  obtain ⟨iv, lv, rfl, hi, hl⟩ := h.is
  have same : ∀ k, k < W3.heap.size → W.heap.size ≤ k → ((((V.setCell ⟨w.heap.size, 0, none⟩ x).setCell ⟨w.heap.size, 1, none⟩ y).setCell ⟨w.heap.size, 2, none⟩ z).putObj Dn (.deferred none)).heap[k]? = W3.heap[k]? := fun k hk h2 => by
    have hne : k ≠ w.heap.size := by omega
    have hnd : Dn ≠ k := by omega
    rw [World.putObj_heap_other (fun e => hnd e.symm), Below.heap_setCell _ ⟨w.heap.size, 2, none⟩ _ k hne, Below.heap_setCell _ ⟨w.heap.size, 1, none⟩ _ k hne, Below.heap_setCell _ ⟨w.heap.size, 0, none⟩ _ k hne, hV]
    exact h1.block k hk (fun e => hne (Option.some.inj e))
  have big : W3.heap.size ≤ ((((V.setCell ⟨w.heap.size, 0, none⟩ x).setCell ⟨w.heap.size, 1, none⟩ y).setCell ⟨w.heap.size, 2, none⟩ z).putObj Dn (.deferred none)).heap.size := by
    have a1 := (KeepsWalks.setCell V ⟨w.heap.size, 0, none⟩ x).size
    have a2 := (KeepsWalks.setCell (V.setCell ⟨w.heap.size, 0, none⟩ x) ⟨w.heap.size, 1, none⟩ y).size
    have a3 := (KeepsWalks.setCell ((V.setCell ⟨w.heap.size, 0, none⟩ x).setCell ⟨w.heap.size, 1, none⟩ y) ⟨w.heap.size, 2, none⟩ z).size
    have a4 := h1.size
    rw [← hV] at a4
    simp
    omega
  refine ⟨⟨iv, lv, rfl, ⟨hi.1, ?_⟩, hl.keep (fun b hb => ⟨by have := hb.1; omega, Nat.lt_of_lt_of_le hb.2 big⟩) (fun b hb hlt => same b hlt hb.1)⟩⟩
  rcases hi.2 with h0 | ⟨g, cap, cur, hv, hb, hg, h3⟩
  · exact .inl h0
  · exact .inr ⟨g, cap, cur, hv, by omega, (same g (Array.getElem?_eq_some_iff.1 hg).1 hb).trans hg, h3⟩
theorem strsl_info : (Tryd.prog.info? 91).map (fun i => (i.zero, i.size, i.bytes)) = some (some (.slice none 0 0), 1, 24) := by kernel_rfl
end Go.Proofs.YtgokenbojppnhaaDoor
