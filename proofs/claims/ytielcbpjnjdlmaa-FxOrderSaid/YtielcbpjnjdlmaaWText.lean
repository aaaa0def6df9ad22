/- wide.Text: digits alone, of a number from 0 on. -/
import Derived.Test.YtielcbpjnjdlmaaRound
import Derived.Test.YtielcbpjnjdlmaaNat1
import Derived.Deep.LoopGhost
import Derived.Laws.BytesArg
import Derived.BigRegion
import Derived.RangeFuncOwn
namespace Go.Proofs.Ytielcbpjnjdlmaa
open Go.RowKit
theorem info8 : (Try.prog.info? 5).map (fun i => (i.zero, i.size, i.bytes)) = some (some (.int .u8 0), 1, 1) := by kernel_rfl
/-- Decimal digits, as bytes. -/
def Dec (ds : List Int) : Prop := ∀ d ∈ ds, 48 ≤ d ∧ d ≤ 57
theorem Dec.snoc {ds : List Int} {d : Int} (h : Dec ds) (h1 : 48 ≤ d) (h2 : d ≤ 57) : Dec (ds ++ [d]) := fun e he => by
  rcases List.mem_append.1 he with h' | h'
  · exact h e h'
  · simp at h'; subst h'; exact ⟨h1, h2⟩
theorem Dec.set {ds : List Int} {d : Int} (h : Dec ds) (h1 : 48 ≤ d) (h2 : d ≤ 57) (i : Nat) : Dec (ds.set i d) := fun e he => by
  rcases List.mem_or_eq_of_mem_set he with h' | h'
  · exact h e h'
  · subst h'; exact ⟨h1, h2⟩
theorem Dec.at {ds : List Int} (h : Dec ds) (i : Nat) (hi : i < ds.length) : 48 ≤ ds.getD i 0 ∧ ds.getD i 0 ≤ 57 := by
  rw [List.getD_eq_getElem?_getD, List.getElem?_eq_getElem hi]
  exact h _ (List.getElem_mem hi)
theorem fin_row8 {w : World} {base : Nat} {e : TypeId} {v : Value} {n : Nat} {zs : List Int} {s : Int} (h : w.ownsRow base e 1 v (n + 1) (zs.map (Value.int .u8) ++ [.int .u8 s])) :
    w.ownsRow base e 1 v (n + 1) ((zs ++ [s]).map (Value.int .u8)) := by
  rw [List.map_append]; exact h
theorem own_ext {w w' : World} {base : Nat} {e : TypeId} {size : Nat} {v : Value} {n : Nat} {xs : List Value} (h : w.ownsRow base e size v n xs) (x : Ext w w') : w'.ownsRow base e size v n xs :=
  h.kept (row := none) ⟨x.os, x.tape, x.output, x.size, fun k hk _ => x.block k hk⟩ (by cases hv : v.ownBlock <;> simp)
theorem own_off {w : World} {base : Nat} {e : TypeId} {size : Nat} {v : Value} {n : Nat} {xs : List Value} {b : Nat} (h : w.ownsRow base e size v n xs) (hb : v.ownBlock ≠ some b) (o : Nat) (u : Value) : (w.setCell ⟨b, o, none⟩ u).ownsRow base e size v n xs :=
  h.kept (row := some b) ⟨rfl, rfl, rfl, (KeepsWalks.setCell w _ u).size, fun k _ hk => Below.heap_setCell _ _ _ k (fun e => hk (by rw [e]))⟩ (.inr hb)
theorem own_shape {W : World} {base : Nat} {e : TypeId} {size : Nat} {v : Value} {k : Nat} {xs : List Value} (h : W.ownsRow base e size v (k + 1) xs) : ∃ g cap, v = .slice (some ⟨g, 0, none⟩) (k + 1) cap ∧ base ≤ g := by
  rcases h.2 with ⟨_, h0⟩ | ⟨g, cap, _, rfl, hb, _⟩
  · omega
  · exact ⟨g, cap, rfl, hb⟩
theorem grow_frozen {w w' : World} {row : Option Nat} (hg : w.grownBy w' row) {a : Addr} {v : Value} (h : w.cell? a = some v) (hf : w.frozen? a = false) (hne : some a.block ≠ row) : w'.frozen? a = false :=
  (World.frozen?_of_block (hg.block a.block (World.block_lt_of_cell? w a h) hne)).trans hf
theorem hi_small {x : Int} (h0 : 0 ≤ x) (h1 : x < 10000000000000) : hi x = 0 ∧ lo x = x := by unfold hi lo; omega
set_option maxHeartbeats 4000000 in
set_option maxRecDepth 100000 in
theorem wtext_digits {x : Int} (w : World) (x0 : 0 ≤ x) (x1 : x < 10000000000000) :
    Calls Try.prog 122 #[.agg #[.int .i64 (hi x), .int .u64 (lo x)]] w fun e w' => ∃ ds : List Int, e = .returned (.string (strOfNums ds)) ∧ Ext w w' ∧ Dec ds ∧ 0 < ds.length ∧ ds.length ≤ 13 := by
  obtain ⟨i0, hi0, hz0, hz1, hz2⟩ := info_parts info8
  have O := Lib.hid (fun v => of_any x v (w128_of_mag (by rw [mag]; split <;> omega)))
  rw [(hi_small x0 x1).1, (hi_small x0 x1).2, show mag x = x by rw [mag, if_neg (by omega)], (hi_small x0 x1).1, (hi_small x0 x1).2, show decide (x < 0) = false by simp; omega] at O
  rw [(hi_small x0 x1).1, (hi_small x0 x1).2]
  have D := Lib.hid (fun (S : Int) (h0 : 0 ≤ S) (h1 : S < 10000000000000) v => divide_short S 10 v ⟨h0, by omega⟩ (by omega) (by omega))
  go_enter Try.func122, Try.ntmps122
  go_wp2_with fail; refine (O.out _).mono ?_; rintro e v1 ⟨rfl, x1⟩; obtain ⟨c1, f1⟩ := x1.rules; have z1 := x1.size; have k1_0_0 := c1 (w.heap.size) 0 (by first | (simp; done) | (simp; omega) | omega); have q1_0_0 := f1 (w.heap.size) 0 (by first | (simp; done) | (simp; omega) | omega); have k1_0_1 := c1 (w.heap.size) 1 (by first | (simp; done) | (simp; omega) | omega); have q1_0_1 := f1 (w.heap.size) 1 (by first | (simp; done) | (simp; omega) | omega); have z1_0 : w.heap.size < v1.heap.size := (by (try simp at z1); omega); (try simp at z1); clear c1 f1; simp [go_sem, *] at k1_0_0 q1_0_0 k1_0_1 q1_0_1
  go_wp2_with fail
  go_loopg [5] 12 (fun g bv wr => ∃ (S : Int) (ds : List Int) (bs : Value), bs = bv ∧ 0 ≤ S ∧ S < 10 * 10 ^ g ∧ g ≤ 12 ∧ ds.length + g ≤ 12 ∧ Dec ds ∧ wr.cell? ⟨v1.heap.size, 0, none⟩ = some (.int .u64 0) ∧ wr.cell? ⟨v1.heap.size, 1, none⟩ = some (.int .u64 S) ∧ wr.frozen? ⟨v1.heap.size, 0, none⟩ = false ∧ wr.frozen? ⟨v1.heap.size, 1, none⟩ = false ∧ wr.ownsRow (v1.heap.size + 1) 5 1 bs ds.length (ds.map (Value.int .u8)) ∧ v1.heap.size < wr.heap.size ∧ Ext w wr)
  case atStart => exact ⟨x, [], _, rfl, x0, by omega, by omega, by simp, fun d hd => absurd hd (by simp), by simp [go_sem, *], by simp [go_sem, *], by simp [go_sem, *], by simp [go_sem, *], World.ownsRow_nil _ _ _ _, (by first | (simp; done) | (simp; omega) | omega), (by repeat (first | with_reducible exact Ext.refl _ | with_reducible apply Ext.drew | with_reducible apply Ext.drewN | with_reducible apply Ext.alloc | ((with_reducible refine Ext.setCell ?_ ?_ _); rotate_left; focus (first | (simp; done) | (simp; omega) | omega)) | with_reducible refine Ext.tr ?_ x1 | with_reducible refine Ext.tr ?_ x2 | with_reducible refine Ext.tr ?_ hext | with_reducible assumption))⟩
  case round =>
    obtain ⟨S, ds, bs, rfl, s0, s1, hg, hl, hd, t0, t1, t2, t3, hown, hz, hext⟩ := hrel
    have hrow := hown.lt
    have DD := Lib.hid hd
    have sb : S < 10000000000000 := by
      have := pow_mono' (show (1 : Int) ≤ 10 by omega) hg
      have e : (10 : Int) ^ 12 = 1000000000000 := by decide
      omega
    have DS := Lib.hid (D.out S s0 sb)
    have q0 : 0 ≤ S / 10 := by omega
    have qb : S / 10 < 10000000000000 := by omega
    have hn2 : ds.length + 1 ≤ maxLen := by unfold maxLen; omega
    have hn3 : (ds.length + 1) * 1 ≤ 140737488355328 := by omega
    rw [(hi_small s0 sb).1, (hi_small s0 sb).2, (hi_small q0 qb).1, (hi_small q0 qb).2] at DS
    have w1 : IntKind.u64.wrap (48 + S % 10) = 48 + S % 10 := by rw [IntKind.wrap_u64]; omega
    have w2 : IntKind.u8.wrap (48 + S % 10) = 48 + S % 10 := by rw [IntKind.wrap_u8]; omega
    have HD2 := Lib.hid (hd.snoc (d := 48 + S % 10) (by omega) (by omega))
    clear hd D
    have HOWN := Lib.hid hown
    have B1 : bs.ownBlock ≠ some v1.heap.size := fun e => by have := hrow _ e; omega
    have B2 : bs.ownBlock ≠ some wr.heap.size := fun e => by have := hrow _ e; omega
    clear hown
    go_wp2_with fail
    have SQ := Lib.hid (show 0 < S / 10 → ∃ g, gk = g + 1 ∧ S / 10 < 10 * 10 ^ g by
      intro sp
      cases gk with
      | zero => rw [Int.pow_zero] at s1; omega
      | succ g => exact ⟨g, rfl, by rw [Int.pow_succ] at s1; omega⟩)
    refine (DS.out _).mono ?_; rintro e v2 ⟨rfl, x2⟩; obtain ⟨c2, f2⟩ := x2.rules; have z2 := x2.size; have k2_v1_heap_size_0 := c2 (v1.heap.size) 0 (by first | (simp; done) | (simp; omega) | omega); have q2_v1_heap_size_0 := f2 (v1.heap.size) 0 (by first | (simp; done) | (simp; omega) | omega); have k2_v1_heap_size_1 := c2 (v1.heap.size) 1 (by first | (simp; done) | (simp; omega) | omega); have q2_v1_heap_size_1 := f2 (v1.heap.size) 1 (by first | (simp; done) | (simp; omega) | omega); have k2_wr_heap_size_0 := c2 (wr.heap.size) 0 (by first | (simp; done) | (simp; omega) | omega); have q2_wr_heap_size_0 := f2 (wr.heap.size) 0 (by first | (simp; done) | (simp; omega) | omega); have k2_wr_heap_size_1 := c2 (wr.heap.size) 1 (by first | (simp; done) | (simp; omega) | omega); have q2_wr_heap_size_1 := f2 (wr.heap.size) 1 (by first | (simp; done) | (simp; omega) | omega); have z2_v1_heap_size : v1.heap.size < v2.heap.size := (by (try simp at z2); omega); have z2_wr_heap_size : wr.heap.size < v2.heap.size := (by (try simp at z2); omega); (try simp at z2); clear c2 f2; simp [go_sem, *] at k2_v1_heap_size_0 q2_v1_heap_size_0 k2_v1_heap_size_1 q2_v1_heap_size_1 k2_wr_heap_size_0 q2_wr_heap_size_0 k2_wr_heap_size_1 q2_wr_heap_size_1; (try clear k1_0_0); (try clear q1_0_0); (try clear k1_0_1); (try clear q1_0_1)
    clear DS s1 s0 sb w1
    have r0 : 0 ≤ S % 10 := by omega
    have r1 : S % 10 < 10 := by omega
    generalize S % 10 = r at *
    generalize S / 10 = q at *
    have w1 : IntKind.u64.wrap (48 + r) = 48 + r := by rw [IntKind.wrap_u64]; omega
    have hWs : (((((v2.setCell ⟨v1.heap.size, 0, none⟩ (.int .u64 0)).setCell ⟨v1.heap.size, 1, none⟩ (.int .u64 q)).setCell ⟨wr.heap.size, 0, none⟩ (.int .u64 0)).setCell ⟨wr.heap.size, 1, none⟩ (.int .u64 r))).heap.size = v2.heap.size := by simp
    have NEWS := Lib.hid (show ∀ j u, [Value.int .u8 (48 + r)][j]? = some u → (World.alloc ((((v2.setCell ⟨v1.heap.size, 0, none⟩ (.int .u64 0)).setCell ⟨v1.heap.size, 1, none⟩ (.int .u64 q)).setCell ⟨wr.heap.size, 0, none⟩ (.int .u64 0)).setCell ⟨wr.heap.size, 1, none⟩ (.int .u64 r)) (.cells #[.int .u8 (48 + r)] 5)).cell? ((⟨v2.heap.size, 0, none⟩ : Addr).add j) = some u by rw [← hWs]; exact news_1 _ _ _)
    have HW := Lib.hid (show (World.alloc ((((v2.setCell ⟨v1.heap.size, 0, none⟩ (.int .u64 0)).setCell ⟨v1.heap.size, 1, none⟩ (.int .u64 q)).setCell ⟨wr.heap.size, 0, none⟩ (.int .u64 0)).setCell ⟨wr.heap.size, 1, none⟩ (.int .u64 r)) (.cells #[.int .u8 (48 + r)] 5)).ownsRow (v1.heap.size + 1) 5 1 bs ds.length (ds.map (Value.int .u8)) from World.ownsRow.alloc (own_off (own_off (own_off (own_off (own_ext (World.ownsRow.alloc HOWN.out _) x2) B1 _ _) B1 _ _) B2 _ _) B2 _ _) _)
    clear hWs HOWN
    rcases Int.lt_or_le 0 q with sp | sp
    · obtain ⟨g, rfl, sg⟩ := SQ.out sp
      have SG := Lib.hid sg
      clear sg SQ
      have nz : (q == 0) = false := by simp; omega
      go_wp2_with (at_builtin; refine wpList_append_own _ rfl _ _ 47 rfl (v1.heap.size + 1) 5 i0 _ 1 1 Try.underlying47 hi0 hz0 hz1 hz2 rfl (by decide) _ _ _ rfl HW.out ⟨v2.heap.size, 0, none⟩ 1 1 [.int .u8 (48 + r)] rfl rfl NEWS.out (one_1 _ _) hn2 hn3 (by simp; omega) ?_; intro v' w1 hown1 hgrow _; have e0 := hgrow.cell (a := ⟨v1.heap.size, 0, none⟩) (v := .int .u64 0) (by simp [go_sem, *]) (fun e => B1 e.symm); have e1 := hgrow.cell (a := ⟨v1.heap.size, 1, none⟩) (v := .int .u64 q) (by simp [go_sem, *]) (fun e => B1 e.symm); have g0 := grow_frozen hgrow (a := ⟨v1.heap.size, 0, none⟩) (v := .int .u64 0) (by simp [go_sem, *]) (by simp [go_sem, *]) (fun e => B1 e.symm); have g1 := grow_frozen hgrow (a := ⟨v1.heap.size, 1, none⟩) (v := .int .u64 q) (by simp [go_sem, *]) (by simp [go_sem, *]) (fun e => B1 e.symm); have X : Ext w w1 := Ext.grown (by repeat (first | with_reducible exact Ext.refl _ | with_reducible apply Ext.drew | with_reducible apply Ext.drewN | with_reducible apply Ext.alloc | ((with_reducible refine Ext.setCell ?_ ?_ _); rotate_left; focus (first | (simp; done) | (simp; omega) | omega)) | with_reducible refine Ext.tr ?_ x1 | with_reducible refine Ext.tr ?_ x2 | with_reducible refine Ext.tr ?_ hext | with_reducible assumption)) hgrow (fun r hr => by have := hrow r hr; omega); have zz : v1.heap.size < w1.heap.size := (by have := hgrow.size; simp at this; omega); have HO := Lib.hid (fin_row8 hown1); clear hgrow hown1)
      go_wp2_with fail
      go_roundg g
      case rel => exact ⟨q, ds ++ [48 + r], v', rfl, q0, SG.out, by omega, by simp; omega, HD2.out, by simp [go_sem, *], by simp [go_sem, *], by simp [go_sem, *], by simp [go_sem, *], by simpa using HO.out, (by first | (simp; done) | (simp; omega) | omega), (by repeat (first | with_reducible exact Ext.refl _ | with_reducible apply Ext.drew | with_reducible apply Ext.drewN | with_reducible apply Ext.alloc | ((with_reducible refine Ext.setCell ?_ ?_ _); rotate_left; focus (first | (simp; done) | (simp; omega) | omega)) | with_reducible refine Ext.tr ?_ x1 | with_reducible refine Ext.tr ?_ x2 | with_reducible refine Ext.tr ?_ hext | with_reducible assumption))⟩
      case measure => omega
    · have nz : (q == 0) = true := by simp; omega
      go_wp2_with (at_builtin; refine wpList_append_own _ rfl _ _ 47 rfl (v1.heap.size + 1) 5 i0 _ 1 1 Try.underlying47 hi0 hz0 hz1 hz2 rfl (by decide) _ _ _ rfl HW.out ⟨v2.heap.size, 0, none⟩ 1 1 [.int .u8 (48 + r)] rfl rfl NEWS.out (one_1 _ _) hn2 hn3 (by simp; omega) ?_; intro v' w1 hown1 hgrow _; have e0 := hgrow.cell (a := ⟨v1.heap.size, 0, none⟩) (v := .int .u64 0) (by simp [go_sem, *]) (fun e => B1 e.symm); have e1 := hgrow.cell (a := ⟨v1.heap.size, 1, none⟩) (v := .int .u64 q) (by simp [go_sem, *]) (fun e => B1 e.symm); have g0 := grow_frozen hgrow (a := ⟨v1.heap.size, 0, none⟩) (v := .int .u64 0) (by simp [go_sem, *]) (by simp [go_sem, *]) (fun e => B1 e.symm); have g1 := grow_frozen hgrow (a := ⟨v1.heap.size, 1, none⟩) (v := .int .u64 q) (by simp [go_sem, *]) (by simp [go_sem, *]) (fun e => B1 e.symm); have X : Ext w w1 := Ext.grown (by repeat (first | with_reducible exact Ext.refl _ | with_reducible apply Ext.drew | with_reducible apply Ext.drewN | with_reducible apply Ext.alloc | ((with_reducible refine Ext.setCell ?_ ?_ _); rotate_left; focus (first | (simp; done) | (simp; omega) | omega)) | with_reducible refine Ext.tr ?_ x1 | with_reducible refine Ext.tr ?_ x2 | with_reducible refine Ext.tr ?_ hext | with_reducible assumption)) hgrow (fun r hr => by have := hrow r hr; omega); have zz : v1.heap.size < w1.heap.size := (by have := hgrow.size; simp at this; omega); have HO := Lib.hid (fin_row8 hown1); clear hgrow hown1; obtain ⟨gb, cp, rfl, gb1⟩ := own_shape HO.out)
      go_wp2_with fail
      have HO2 := Lib.hid (show w1.ownsRow (v1.heap.size + 1) 5 1 (.slice (some ⟨gb, 0, none⟩) (ds.length + 1) cp) (ds.length + 1) ((ds ++ [48 + r]).map (Value.int .u8)) from HO.out)
      have hm : ds.length + 1 ≤ 13 := by omega
      have HL := Lib.hid (show (ds ++ [48 + r]).length = ds.length + 1 by simp)
      clear HO NEWS HW SQ hn2 hn3 DD hl
      generalize ds ++ [48 + r] = es at *
      generalize hmm : ds.length + 1 = m at *
      have m1 : 1 ≤ m := by omega
      go_loopw [7, 8] (fun i k wq => ∃ (j kk : Nat) (fs : List Int), j + kk + 1 = m ∧ i = .int .i64 j ∧ k = .int .i64 kk ∧ Dec fs ∧ fs.length = m ∧ wq.ownsRow (v1.heap.size + 1) 5 1 (.slice (some ⟨gb, 0, none⟩) m cp) m (fs.map (Value.int .u8)) ∧ Ext w wq) (fun i _ _ => m - (intOf i).toNat)
      case atStart => exact ⟨0, ds.length, es, by omega, rfl, by first | rfl | (simp; done) | (simp; omega), HD2.out, HL.out, HO2.out, (by repeat (first | with_reducible exact Ext.refl _ | with_reducible apply Ext.drew | with_reducible apply Ext.drewN | with_reducible apply Ext.alloc | ((with_reducible refine Ext.setCell ?_ ?_ _); rotate_left; focus (first | (simp; done) | (simp; omega) | omega)) | with_reducible refine Ext.tr ?_ x1 | with_reducible refine Ext.tr ?_ x2 | with_reducible refine Ext.tr ?_ hext | with_reducible assumption))⟩
      case round =>
        clear HO2 HL HD2 e0 e1 g0 g1 hmm
        obtain ⟨j, kk, fs, hj, rfl, rfl, hd, hf, hown, hext⟩ := hrel
        have HF := Lib.hid hd
        have HW := Lib.hid hown
        have HX := Lib.hid hf
        have gbl : w.heap.size ≤ gb := by omega
        by_cases hlt : j < kk
        · have cj := owns_at hown j (by omega)
          have ck := owns_at hown kk (by omega)
          have fj := hown.frozenAt j
          have fk := hown.frozenAt kk
          have nj : (j : Int) < (m : Int) := by omega
          have nk : (kk : Int) < (m : Int) := by omega
          have ne : (j = kk) = False := by simp; omega
          have ne' : (kk = j) = False := by simp; omega
          obtain ⟨a1, a2⟩ := hd.at j (by omega)
          obtain ⟨b1, b2⟩ := hd.at kk (by omega)
          have D1 := Lib.hid ((hd.set b1 b2 j).set a1 a2 kk)
          have D2 := Lib.hid ((hd.set a1 a2 kk).set b1 b2 j)
          clear hd hown hf
          generalize fs.getD j 0 = fa at *
          generalize fs.getD kk 0 = fb at *
          go_wp2_with fail
          go_region
          all_goals
            go_wp2_with fail
            go_roundw
            case rel =>
              first
                | exact ⟨j + 1, kk - 1, (fs.set j fb).set kk fa, by omega, by go_num, by simp; omega, D1.out, by simp [HX.out], own_set (own_set HW.out _ _) _ _, (by repeat (first | with_reducible exact Ext.refl _ | with_reducible apply Ext.drew | with_reducible apply Ext.drewN | with_reducible apply Ext.alloc | ((with_reducible refine Ext.setCell ?_ ?_ _); rotate_left; focus (first | (simp; done) | (simp; omega) | omega)) | with_reducible refine Ext.tr ?_ x1 | with_reducible refine Ext.tr ?_ x2 | with_reducible refine Ext.tr ?_ hext | with_reducible assumption))⟩
                | exact ⟨j + 1, kk - 1, (fs.set kk fa).set j fb, by omega, by go_num, by simp; omega, D2.out, by simp [HX.out], own_set (own_set HW.out _ _) _ _, (by repeat (first | with_reducible exact Ext.refl _ | with_reducible apply Ext.drew | with_reducible apply Ext.drewN | with_reducible apply Ext.alloc | ((with_reducible refine Ext.setCell ?_ ?_ _); rotate_left; focus (first | (simp; done) | (simp; omega) | omega)) | with_reducible refine Ext.tr ?_ x1 | with_reducible refine Ext.tr ?_ x2 | with_reducible refine Ext.tr ?_ hext | with_reducible assumption))⟩
            case measure => simp [intOf]; omega
        · have kc := run_convert_bytes_arg (P := Try.prog) wr 47 5 Try.underlying47 Try.underlying5 gb 0 m cp fs hf (fun i hi => by rw [Nat.zero_add]; exact owns_at hown i hi)
          clear hown hd
          go_wp2
          go_ret
          exact ⟨fs, rfl, (by repeat (first | with_reducible exact Ext.refl _ | with_reducible apply Ext.drew | with_reducible apply Ext.drewN | with_reducible apply Ext.alloc | ((with_reducible refine Ext.setCell ?_ ?_ _); rotate_left; focus (first | (simp; done) | (simp; omega) | omega)) | with_reducible refine Ext.tr ?_ x1 | with_reducible refine Ext.tr ?_ x2 | with_reducible refine Ext.tr ?_ hext | with_reducible assumption)), HF.out, by omega, by omega⟩
end Go.Proofs.Ytielcbpjnjdlmaa
