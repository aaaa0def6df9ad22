/- Package ratchetref26: lines. -/
import Derived.Test.YtkdfenkpfffcaaaRefDef4
namespace Go.Proofs.Ytkdfenkpfffcaaa
open Go.RowKit
theorem bytesV_len (b : Bs) : (bytesV b).length = b.length := by simp [bytesV]
theorem bytesV_sub {w : World} {g o cap : Nat} {b : Bs} (hcap : b.length ≤ cap) (hmax : cap ≤ maxLen) (hc : ∀ i, i < b.length → w.cell? ⟨g, o + i, none⟩ = (bytesV b)[i]?) (f i : Nat) (h1 : f ≤ i) (h2 : i ≤ b.length) : RowV w (.slice (some ⟨g, o + f, none⟩) (i - f) (cap - f)) (bytesV ((b.take i).drop f)) := by
  have hl : ((b.take i).drop f).length = i - f := by simp; omega
  refine ⟨some ⟨g, o + f, none⟩, cap - f, by rw [bytesV_len, hl], by rw [bytesV_len, hl]; omega, by omega, fun _ => ⟨g, o + f, rfl, fun k hk => ?_⟩⟩
  rw [bytesV_len, hl] at hk
  have hfk : f + k < b.length := by omega
  have e : o + f + k = o + (f + k) := by omega
  rw [e, hc (f + k) hfk]
  simp only [bytesV, List.getElem?_map, List.getElem?_drop, List.getElem?_take]
  rw [if_pos (by omega)]
theorem dropLast_of {α : Type} {L : List α} {x : α} {M : List α} (h : M = L ++ [x]) : M.dropLast = L ∧ ∀ d, M.getLastD d = x := by
  subst h; simp
set_option maxHeartbeats 4000000 in
set_option maxRecDepth 100000 in
theorem linesR_any {v : Value} {b : Bs} {w : World} (h : RowV w v (bytesV b)) (hb : b.length ≤ 100000) :
    Calls Try.prog 45 #[v] w fun e w' => ∃ lv, e = .returned (.tuple #[lv, .string (ba (restB b))]) ∧ Ext w w' ∧ w'.ownsRow w.heap.size 9 1 lv (cutAt 10 b).dropLast.length (strs (cutAt 10 b).dropLast) := by
  obtain ⟨LL, hLL⟩ : ∃ LL, (cutAt 10 b).dropLast = LL := ⟨_, rfl⟩
  rw [hLL]
  have HLL := Lib.hid hLL
  clear hLL
  have RW := Lib.hid h
  have CV0 := Lib.hid (fun u (x : Ext w u) => bytes_str (RW.out.ext x) 9 Try.underlying9)
  obtain ⟨a, cap, rfl, hcap, hmax, h3⟩ := h
  have hl := bytesV_len b
  rw [hl] at hcap CV0 ⊢
  obtain ⟨i0, hi0, hz0, hz1, hz2⟩ := info_parts str_info
  by_cases hb0 : b = []
  · subst hb0
    obtain rfl : LL = [] := HLL.out.symm
    have ex := fun n => CV0.out (w.drewN n) ((Ext.refl w).drewN n)
    simp only [List.length_nil] at ex ⊢
    have hcz : (0 : Int) ≤ (cap : Int) := by omega
    clear CV0 h3 hl
    go_enter Try.func45, Try.ntmps45
    go_wp2_with fail
    go_loopw [4, 5, 6] (fun l f i wr => l = .slice none 0 0 ∧ f = .int .i64 0 ∧ i = .int .i64 0 ∧ wr = w) (fun _ _ _ _ => 0)
    case atStart => exact ⟨rfl, rfl, rfl, rfl⟩
    case round =>
      obtain ⟨rfl, rfl, rfl, hwr⟩ := hrel
      subst hwr
      go_wp2_with fail
      go_quiet (fail)
      go_wp2_with fail
      (try rw [Exit.noGoto_ret])
      change bodyPost _ _ _ _ _ _
      refine bodyPost_ret (results_tmp2 rfl _ _ _) rfl ?_
      exact ⟨_, rfl, (Ext.refl _).drewN _, World.ownsRow_nil _ _ _ _⟩
  · obtain ⟨g, o, rfl, hc⟩ := h3 (by intro e; apply hb0; have := congrArg List.length e; simp [bytesV] at this; exact this)
    rw [hl] at hc
    have SUB := Lib.hid (fun u (x : Ext w u) f i h1 h2 => bytes_str ((bytesV_sub hcap hmax hc f i h1 h2).ext x) 9 Try.underlying9)
    have HC := Lib.hid hc
    clear CV0 h3 hl hc
    go_enter Try.func45, Try.ntmps45
    go_wp2_with fail
    go_loopw [4, 5, 6] (fun l f i wr => ∃ (k p : Nat) (L : List Bs), k ≤ b.length ∧ i = .int .i64 k ∧ f = .int .i64 p ∧ wr.ownsRow w.heap.size 9 1 l L.length (strs L) ∧ L.length ≤ k ∧ CutTo 10 b k p L ∧ Ext w wr) (fun _ _ i _ => b.length - (intOf i).toNat)
    case atStart => exact ⟨0, 0, [], Nat.zero_le _, rfl, rfl, World.ownsRow_nil _ _ _ _, by simp, CutTo.zero _ _, Ext.refl _⟩
    case round =>
      obtain ⟨k, p, L, hk, rfl, rfl, hown, hLk, hcut, hext⟩ := hrel
      have oz := hcut.1
      have CUT := Lib.hid hcut
      clear hcut
      have pz : (p : Int) ≤ (k : Int) := by omega
      have kz : (k : Int) ≤ (b.length : Int) := by omega
      have bz : (b.length : Int) ≤ (cap : Int) := by omega
      rcases Nat.lt_or_ge k b.length with hlt | hge
      · have hlz : (k : Int) < (b.length : Int) := by omega
        have kc := hext.cell ((HC.out k hlt).trans (show (bytesV b)[k]? = some (.int .u8 (b[k].toNat : Int)) by simp [bytesV, hlt]))
        have zc := cell_lt kc
        simp only at zc
        have OTH := Lib.hid (CUT.out.other hlt)
        have CUTX := Lib.hid (CUT.out.cut hlt)
        obtain ⟨y, hy⟩ : ∃ y, b[k] = y := ⟨_, rfl⟩
        rw [hy] at OTH CUTX kc
        clear hy
        by_cases e : y = 10
        · have n1 : ((y.toNat : Int) == 10) = true := by rw [e]; rfl
          have C2 := Lib.hid (CUTX.out e)
          have ex := SUB.out wr hext p k oz hk
          have SN := Lib.hid (strs_snoc L ((b.take k).drop p))
          obtain ⟨x, hx⟩ : ∃ x, (b.take k).drop p = x := ⟨_, rfl⟩
          rw [hx] at ex SN C2
          obtain ⟨X, hX⟩ : ∃ X, ba x = X := ⟨_, rfl⟩
          rw [hX] at ex SN
          have hrow := hown.lt
          have hn2 : L.length + 1 ≤ maxLen := by unfold maxLen; omega
          have hn3 : (L.length + 1) * 16 ≤ 140737488355328 := by omega
          have hbase := hext.size
          clear OTH CUTX CUT e hx hX
          go_wp2_with (at_builtin; refine wpList_append_own _ rfl _ _ 89 rfl w.heap.size 9 i0 _ 1 16 Try.underlying89 hi0 hz0 hz1 hz2 rfl (by decide) _ _ _ rfl (hown.alloc _) ⟨wr.heap.size, 0, none⟩ 1 1 [.string X] rfl rfl (newsC_1 _ _ _) (oneS_1 _) hn2 hn3 (by simp; omega) ?_; intro v' w1 hown1 hgrow _)
          have X1 : Ext w w1 := Ext.grown (hext.alloc _) hgrow (fun r hr => (hrow r hr).1)
          clear hown hgrow hrow ex
          go_wp2_with fail
          have hown2 : w1.ownsRow w.heap.size 9 1 v' (L ++ [x]).length (strs (L ++ [x])) := by
            rw [SN.out, List.length_append]; exact hown1
          exact ⟨⟨k + 1, k + 1, L ++ [x], by omega, by go_num, by go_num, hown2, by simp; omega, C2.out, X1⟩, by simp [intOf]; omega⟩
        · have n1 := (byte_ne e).2
          rw [show ((10 : UInt8).toNat : Int) = 10 by rfl] at n1
          have O2 := Lib.hid (OTH.out e)
          clear OTH CUTX CUT e
          go_wp2_with fail
          exact ⟨⟨k + 1, p, L, by omega, by go_num, rfl, hown, by omega, O2.out, hext⟩, by simp [intOf]; omega⟩
      · obtain rfl : k = b.length := by omega
        have hlz : ¬ (b.length : Int) < (b.length : Int) := by omega
        have ALL := CUT.out.all
        have DL := Lib.hid (dropLast_of ALL)
        have HR := Lib.hid (show restB b = b.drop p from (dropLast_of ALL).2 [])
        have HO := Lib.hid hown
        have ex : ∀ n, (convert 23 9 (.slice (if cap = p then some ⟨g, o, none⟩ else some ⟨g, o + p, none⟩) (b.length - p) (cap - p))).run Try.prog (wr.drewN n) = .ok (.string (ba (restB b))) (wr.drewN n) := fun n => by
          have e := SUB.out (wr.drewN n) (hext.drewN n) p b.length oz (Nat.le_refl _)
          rw [List.take_length, ← HR.out] at e
          split
          · rename_i hcp
            have h0 : b.length - p = 0 := by omega
            have h1 : restB b = [] := by rw [HR.out]; exact List.drop_of_length_le (by omega)
            rw [h0, h1]
            exact bytes_str (b := []) ⟨_, _, rfl, Nat.zero_le _, by omega, fun h => absurd rfl h⟩ 9 Try.underlying9
          · exact e
        obtain rfl : LL = L := HLL.out.symm.trans DL.out.1
        clear ALL CUT hown HLL
        go_wp2_with fail
        go_quiet (fail)
        go_wp2_with fail
        all_goals
          (try rw [Exit.noGoto_ret])
          change bodyPost _ _ _ _ _ _
          refine bodyPost_ret (results_tmp2 rfl _ _ _) rfl ?_
          exact ⟨_, rfl, hext.drewN _, own_old HO.out ((Ext.refl _).drewN nq)⟩
end Go.Proofs.Ytkdfenkpfffcaaa
