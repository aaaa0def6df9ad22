/- Package ratchetref26: name, words, all. -/
import Derived.Test.YtkdfenkpfffcaaaDefParse
namespace Go.Proofs.Ytkdfenkpfffcaaa
open Go.RowKit
theorem nameR_any (k : Nat) (hk : k ≤ 13) (w : World) : Calls Try.prog 122 #[.int .i64 k] w fun e w' => e = .returned (.string (ba (nameB k))) ∧ w = w' := by
  have hh : k = 0 ∨ k = 1 ∨ k = 2 ∨ k = 3 ∨ k = 4 ∨ k = 5 ∨ k = 6 ∨ k = 7 ∨ k = 8 ∨ k = 9 ∨ k = 10 ∨ k = 11 ∨ k = 12 ∨ k = 13 := by omega
  rcases hh with rfl | rfl | rfl | rfl | rfl | rfl | rfl | rfl | rfl | rfl | rfl | rfl | rfl | rfl
  all_goals
    go_enter Try.func122, Try.ntmps122
    go_wp2
    go_ret
    exact ⟨rfl, rfl⟩
set_option maxHeartbeats 2000000 in
set_option maxRecDepth 10000 in
theorem wordsR_any (t : Bs) (w : World) (hl : t.length ≤ 100000) :
    Calls Try.prog 46 #[.string (ba t)] w fun e w' => ∃ v, e = .returned v ∧ Ext w w' ∧ w'.ownsRow w.heap.size 9 1 v (cutAt 32 t).length (strs (cutAt 32 t)) := by
  obtain ⟨i0, hi0, hz0, hz1, hz2⟩ := info_parts str_info
  obtain ⟨S, hS, SZ, AT, EX, -⟩ := str_of t
  rw [hS]
  have hn : (t.length : Int) ≤ 100000 := by omega
  clear hS
  go_enter Try.func46, Try.ntmps46
  go_wp2_with fail
  go_loopw [3, 4, 5] (fun l f i wr => ∃ (k o : Nat) (L : List Bs), k ≤ t.length + 1 ∧ i = .int .i64 k ∧ f = .int .i64 o ∧ wr.ownsRow w.heap.size 9 1 l L.length (strs L) ∧ L.length ≤ k ∧ (k ≤ t.length → CutTo 32 t k o L) ∧ (t.length < k → L = cutAt 32 t) ∧ Ext w wr) (fun _ _ i _ => t.length + 1 - (intOf i).toNat)
  case atStart => exact ⟨0, 0, [], Nat.zero_le _, rfl, rfl, World.ownsRow_nil _ _ _ _, by simp, fun _ => CutTo.zero _ _, by omega, Ext.refl _⟩
  case round =>
    obtain ⟨k, o, L, hk, rfl, rfl, hown, hLk, hc1, hc2, hext⟩ := hrel
    rcases Nat.lt_or_ge t.length k with hgt | hle
    · have hg : ¬ (k : Int) ≤ (t.length : Int) := by omega
      obtain rfl := hc2 hgt
      have HO := Lib.hid hown
      clear hown hc1 hc2
      go_wp2
      go_ret
      exact ⟨_, rfl, hext, HO.out⟩
    · have hz : (k : Int) ≤ (t.length : Int) := by omega
      have hcut := hc1 hle
      have oz := hcut.1
      have CUT := Lib.hid hcut
      clear hc1 hc2 hcut
      rcases Nat.lt_or_ge k t.length with hlt | hge
      · have hlz : ((k : Int) == (t.length : Int)) = false := by simp; omega
        have hlz2 : (k : Int) < (t.length : Int) := by omega
        have at1 := AT.out k hlt
        have OTH := Lib.hid (CUT.out.other hlt)
        have CUTX := Lib.hid (CUT.out.cut hlt)
        obtain ⟨b, hb⟩ : ∃ b, t[k] = b := ⟨_, rfl⟩
        rw [hb] at OTH CUTX
        have at2 : ∀ h : k < S.size, S[k]'h = b := fun h => (at1 h).trans hb
        clear at1 hb
        by_cases e : b = 32
        · have n1 : ((b.toNat : Int) == 32) = true := by rw [e]; rfl
          have C2 := Lib.hid (CUTX.out e)
          have ex := EX.out o k
          have SN := Lib.hid (strs_snoc L ((t.take k).drop o))
          obtain ⟨x, hx⟩ : ∃ x, (t.take k).drop o = x := ⟨_, rfl⟩
          rw [hx] at ex SN C2
          obtain ⟨X, hX⟩ : ∃ X, ba x = X := ⟨_, rfl⟩
          rw [hX] at ex SN
          have oz1 : (o : Int) ≤ (k : Int) := by omega
          have hrow := hown.lt
          have hn2 : L.length + 1 ≤ maxLen := by unfold maxLen; omega
          have hn3 : (L.length + 1) * 16 ≤ 140737488355328 := by omega
          have hbase := hext.size
          clear OTH CUTX CUT e hx hX
          go_wp2_with (at_builtin; refine wpList_append_own _ rfl _ _ 89 rfl w.heap.size 9 i0 _ 1 16 Try.underlying89 hi0 hz0 hz1 hz2 rfl (by decide) _ _ _ rfl (hown.alloc _) ⟨wr.heap.size, 0, none⟩ 1 1 [.string X] rfl rfl (newsC_1 _ _ _) (oneS_1 _) hn2 hn3 (by simp; omega) ?_; intro v' w1 hown1 hgrow _)
          have X1 : Ext w w1 := Ext.grown (hext.alloc _) hgrow (fun r hr => (hrow r hr).1)
          clear hown hgrow hrow
          go_wp2_with fail
          have hown2 : w1.ownsRow w.heap.size 9 1 v' (L ++ [x]).length (strs (L ++ [x])) := by
            rw [SN.out, List.length_append]; exact hown1
          exact ⟨⟨k + 1, k + 1, L ++ [x], by omega, by go_num, by go_num, hown2, by simp; omega, fun _ => C2.out, by omega, X1⟩, by simp [intOf]; omega⟩
        · have n1 := (byte_ne e).2
          rw [show ((32 : UInt8).toNat : Int) = 32 by rfl] at n1
          have O2 := Lib.hid (OTH.out e)
          clear OTH CUTX CUT e
          go_wp2_with fail
          exact ⟨⟨k + 1, o, L, by omega, by go_num, rfl, hown, by omega, fun _ => O2.out, by omega, hext⟩, by simp [intOf]; omega⟩
      · obtain rfl : k = t.length := by omega
        have ALL := Lib.hid CUT.out.all
        have ex := EX.out o t.length
        rw [List.take_length] at ex
        have SN := Lib.hid (strs_snoc L (t.drop o))
        obtain ⟨x, hx⟩ : ∃ x, t.drop o = x := ⟨_, rfl⟩
        rw [hx] at ex SN ALL
        obtain ⟨X, hX⟩ : ∃ X, ba x = X := ⟨_, rfl⟩
        rw [hX] at ex SN
        have oz1 : (o : Int) ≤ (t.length : Int) := by omega
        have hrow := hown.lt
        have hn2 : L.length + 1 ≤ maxLen := by unfold maxLen; omega
        have hn3 : (L.length + 1) * 16 ≤ 140737488355328 := by omega
        have hbase := hext.size
        have HLK := Lib.hid hLk
        clear CUT hx hX
        go_wp2_with (at_builtin; refine wpList_append_own _ rfl _ _ 89 rfl w.heap.size 9 i0 _ 1 16 Try.underlying89 hi0 hz0 hz1 hz2 rfl (by decide) _ _ _ rfl (hown.alloc _) ⟨wr.heap.size, 0, none⟩ 1 1 [.string X] rfl rfl (newsC_1 _ _ _) (oneS_1 _) hn2 hn3 (by simp; omega) ?_; intro v' w1 hown1 hgrow _)
        have X1 : Ext w w1 := Ext.grown (hext.alloc _) hgrow (fun r hr => (hrow r hr).1)
        clear hown hgrow hrow
        go_wp2_with fail
        have hown2 : w1.ownsRow w.heap.size 9 1 v' (L ++ [x]).length (strs (L ++ [x])) := by
          rw [SN.out, List.length_append]; exact hown1
        exact ⟨⟨t.length + 1, t.length + 1, L ++ [x], by omega, by go_num, by go_num, hown2, by simp; omega, by omega, fun _ => ALL.out.symm, X1⟩, by simp [intOf]⟩
/-- What all tells. -/
def allRes (base : Nat) (w : World) (iv : Value) (ok : Bool) : Option (List Nat) → Prop
  | none => iv = .slice none 0 0 ∧ ok = false
  | some ns => ok = true ∧ w.ownsRow base 3 1 iv ns.length (ns.map (fun (n : Nat) => Value.int .i64 (n : Int)))
theorem numM_none {t : Bs} (h : numB t = none) : numM t = -1 := by unfold numM; rw [h]
theorem numM_some {t : Bs} {n : Nat} (h : numB t = some n) : numM t = n := by unfold numM; rw [h]
set_option maxHeartbeats 2000000 in
set_option maxRecDepth 10000 in
theorem allR_any {v : Value} {L : List Bs} {w : World} (h : RowV w v (strs L)) (hs : ∀ x ∈ L, x.length ≤ 100000) (hL : L.length ≤ 100000) :
    Calls Try.prog 47 #[v] w fun e w' => ∃ iv ok, e = .returned (.tuple #[iv, .bool ok]) ∧ Ext w w' ∧ allRes w.heap.size w' iv ok (allB L) := by
  obtain ⟨i0, hi0, hz0, hz1, hz2⟩ := info_parts int_info
  obtain ⟨a, cap, rfl, hcap, hmax, h3⟩ := h
  rw [strs_len] at hcap ⊢
  have HC := Lib.hid h3
  have HS := Lib.hid hs
  clear h3 hs hmax
  go_enter Try.func47, Try.ntmps47
  go_wp2_with fail
  go_loopw [4, 5, 6] (fun l i _ wr => ∃ (k : Nat) (ns : List Nat), k ≤ L.length ∧ i = .int .i64 k ∧ allB (L.take k) = some ns ∧ ns.length = k ∧ wr.ownsRow w.heap.size 3 1 l k (ns.map (fun (n : Nat) => Value.int .i64 (n : Int))) ∧ Ext w wr) (fun _ i _ _ => L.length - (intOf i).toNat)
  case atStart => exact ⟨0, [], Nat.zero_le _, rfl, rfl, rfl, World.ownsRow_nil _ _ _ _, Ext.refl _⟩
  case round =>
    obtain ⟨k, ns, hk, rfl, hall, hnl, hown, hext⟩ := hrel
    have HA := Lib.hid hall
    rcases Nat.lt_or_ge k L.length with hlt | hge
    · have hlz : (k : Int) < (L.length : Int) := by omega
      obtain ⟨b, o, rfl, hc⟩ := HC.out (by intro e; have := congrArg List.length e; simp [strs] at this; subst this; simp at hlt)
      have kc := hext.cell ((hc k (by simpa [strs] using hlt)).trans (show (strs L)[k]? = some (.string (ba L[k])) by simp [strs, hlt]))
      have zc := cell_lt kc
      simp only at zc
      have NB := Lib.hid (fun u => numberR_any L[k] u (HS.out _ (List.getElem_mem hlt)))
      have TK := Lib.hid (take_snoc' hlt)
      have MEM := Lib.hid (show L[k] ∈ L from List.getElem_mem hlt)
      clear hc hall
      generalize L[k] = x at *
      obtain ⟨X, hX⟩ : ∃ X, ba x = X := ⟨_, rfl⟩
      rw [hX] at kc NB
      clear hX
      cases hn : numB x with
      | none =>
        rw [numM_none hn] at NB
        have AN := Lib.hid (allB_none MEM.out hn)
        go_wp2_with fail
        refine (NB.out _).mono ?_
        rintro e w' ⟨rfl, rfl⟩
        go_wp2_with fail
        (try rw [Exit.noGoto_ret])
        change bodyPost _ _ _ _ _ _
        refine bodyPost_ret (results_tmp2 rfl _ _ _) rfl ?_
        exact ⟨_, _, rfl, hext, by rw [AN.out]; exact ⟨rfl, rfl⟩⟩
      | some n =>
        rw [numM_some hn] at NB
        have AS := Lib.hid (show allB (L.take (k + 1)) = some (ns ++ [n]) by rw [TK.out]; exact allB_snoc HA.out hn)
        have hrow := hown.lt
        have hn2 : k + 1 ≤ maxLen := by unfold maxLen; omega
        have hn3 : (k + 1) * 8 ≤ 140737488355328 := by omega
        have hbase := hext.size
        have nz : ¬ (n : Int) < 0 := by omega
        clear TK MEM hn HA
        go_wp2_with fail
        refine (NB.out _).mono ?_
        rintro e w' ⟨rfl, rfl⟩
        clear NB
        go_wp2_with (at_builtin; refine wpList_append_own _ rfl _ _ 25 rfl w.heap.size 3 i0 _ 1 8 Try.underlying25 hi0 hz0 hz1 hz2 rfl (by decide) _ _ _ rfl (hown.alloc _) ⟨wr.heap.size, 0, none⟩ 1 1 [.int .i64 n] rfl rfl (newsC_1 _ _ _) (by simp [Value.oneCell']) hn2 hn3 (by simp; omega) ?_; intro v' w1 hown1 hgrow _)
        have X1 : Ext w w1 := Ext.grown (hext.alloc _) hgrow (fun r hr => (hrow r hr).1)
        have O2 := Lib.hid hown1
        clear hown hgrow hrow hown1 kc
        go_wp2_with fail
        exact ⟨⟨k + 1, ns ++ [n], by omega, by go_num, AS.out, by simp [hnl], by rw [List.map_append]; exact O2.out, X1⟩, by simp [intOf]; omega⟩
    · have hlz : ¬ (k : Int) < (L.length : Int) := by omega
      have hkl : k = L.length := by omega
      have AL := Lib.hid (show allB L = some ns by have := HA.out; rw [hkl, List.take_length] at this; exact this)
      have HO := Lib.hid hown
      clear hall hown HC HS
      go_wp2_with fail
      (try rw [Exit.noGoto_ret])
      change bodyPost _ _ _ _ _ _
      refine bodyPost_ret (results_tmp2 rfl _ _ _) rfl ?_
      exact ⟨_, .inr ⟨rfl, hext, by rw [AL.out]; exact ⟨rfl, by rw [hnl]; exact HO.out⟩⟩⟩
end Go.Proofs.Ytkdfenkpfffcaaa
