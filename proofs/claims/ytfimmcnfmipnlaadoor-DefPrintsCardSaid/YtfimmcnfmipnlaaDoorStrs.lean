/- Strings as lists of bytes; rows of values; def.wordsOf. -/
import Derived.Test.YtfimmcnfmipnlaaDoorDefSpec
import Derived.Test.YtfimmcnfmipnlaaDoorClones
import Derived.Laws.DeepStrings4
namespace Go.Proofs.YtfimmcnfmipnlaaDoor
open Go.RowKit
/-- A list of bytes as a string. -/
def ba (l : Bs) : ByteArray := ⟨l.toArray⟩
theorem ba_size (l : Bs) : (ba l).size = l.length := by simp [ba, ByteArray.size]
theorem ba_toList (l : Bs) : (ba l).toList = l := ByteArray.toList_mk l
theorem ba_at {l : Bs} {k : Nat} (h : k < (ba l).size) : (ba l)[k]'h = l[k]'(by rw [ba_size] at h; exact h) := by
  simp [ba, ByteArray.getElem_eq_getElem_data]
theorem ba_extract (l : Bs) (i j : Nat) : (ba l).extract i j = ba ((l.take j).drop i) := by
  apply ByteArray.ext
  rw [ByteArray.data_extract]
  simp [ba, List.extract_toArray, List.drop_take]
/-- A string behind a letter. -/
theorem str_of (t : Bs) : ∃ S, ba t = S ∧ S.size = t.length ∧ Hid (∀ (k : Nat) (hk : k < t.length) (h : k < S.size), S[k]'h = t[k]'hk) ∧ Hid (∀ i j, S.extract i j = ba ((t.take j).drop i)) ∧ Hid (S.toList = t) :=
  ⟨_, rfl, ba_size t, Lib.hid (fun _ _ h => ba_at h), Lib.hid (ba_extract t), Lib.hid (ba_toList t)⟩
theorem ba_inj {a b : Bs} (h : ba a = ba b) : a = b := by rw [← ba_toList a, ← ba_toList b, h]
theorem ba_of (s : ByteArray) : ba s.data.toList = s := by simp [ba]
/-- Strings, as a row's values. -/
def strs (L : List Bs) : List Value := L.map (fun x => .string (ba x))
/-- A row of values, as a world reads it. -/
def RowV (w : World) (v : Value) (vs : List Value) : Prop :=
  ∃ a cap, v = .slice a vs.length cap ∧ vs.length ≤ cap ∧ cap ≤ maxLen ∧ (vs ≠ [] → ∃ b o, a = some ⟨b, o, none⟩ ∧ ∀ i, i < vs.length → w.cell? ⟨b, o + i, none⟩ = vs[i]?)
theorem RowV.ext {w w' : World} {v : Value} {vs : List Value} (h : RowV w v vs) (x : Ext w w') : RowV w' v vs := by
  obtain ⟨a, cap, rfl, h1, h2, h3⟩ := h
  refine ⟨a, cap, rfl, h1, h2, fun hn => ?_⟩
  obtain ⟨b, o, rfl, hc⟩ := h3 hn
  refine ⟨b, o, rfl, fun i hi => ?_⟩
  have e := hc i hi
  rw [List.getElem?_eq_getElem hi] at e ⊢
  exact x.cell e
theorem RowV.of_owns {w : World} {base : Nat} {e : TypeId} {v : Value} {n : Nat} {xs : List Value} (h : w.ownsRow base e 1 v n xs) : RowV w v xs := by
  have hl : xs.length = n := by simpa using h.1
  subst hl
  rcases h.2 with ⟨rfl, h0⟩ | ⟨g, cap, cur, rfl, hb, hg, h1, h2, h3, h4⟩
  · have : xs = [] := List.eq_nil_of_length_eq_zero h0
    subst this; exact ⟨none, 0, rfl, by simp, by simp [maxLen], fun h => absurd rfl h⟩
  · refine ⟨_, cap, rfl, h1, h2, fun _ => ⟨g, 0, rfl, fun i hi => ?_⟩⟩
    rw [Nat.zero_add, h.cellAt i (by omega)]
theorem str_info : (Tryd.prog.info? 9).map (fun i => (i.zero, i.size, i.bytes)) = some (some (.string ByteArray.empty), 1, 16) := by kernel_rfl
theorem oneS_1 (x : ByteArray) : ∀ u ∈ [Value.string x], u.oneCell' = true := by
  intro u hu; simp at hu; subst hu; rfl
theorem strs_snoc (L : List Bs) (x : Bs) : strs (L ++ [x]) = strs L ++ [.string (ba x)] := by simp [strs]
theorem strs_len (L : List Bs) : (strs L).length = L.length := by simp [strs]
theorem byte_ne {b : UInt8} {c : UInt8} (h : b ≠ c) : ((b.toNat : Int) != c.toNat) = true ∧ ((b.toNat : Int) == c.toNat) = false := by
  have : (b.toNat : Int) ≠ c.toNat := fun e => h (UInt8.toNat_inj.1 (Int.ofNat.inj e))
  exact ⟨by simpa using this, by simpa using this⟩
set_option maxHeartbeats 2000000 in
set_option maxRecDepth 10000 in
theorem wordsOf_any (t : Bs) (w : World) (hl : t.length ≤ 100000) :
    Calls Tryd.prog 52 #[.string (ba t)] w fun e w' => ∃ v, e = .returned v ∧ Ext w w' ∧ w'.ownsRow w.heap.size 9 1 v (wordsS t).length (strs (wordsS t)) := by
  obtain ⟨i0, hi0, hz0, hz1, hz2⟩ := info_parts str_info
  obtain ⟨S, hS, SZ, AT, EX, -⟩ := str_of t
  rw [hS]
  have hn : (t.length : Int) ≤ 100000 := by omega
  clear hS
  go_enter Tryd.func52, Tryd.ntmps52
  go_wp2_with fail
  go_loopw [2, 3, 4] (fun l f i wr => ∃ (k o : Nat) (L : List Bs), k ≤ t.length + 1 ∧ i = .int .i64 k ∧ f = .int .i64 o ∧ wr.ownsRow w.heap.size 9 1 l L.length (strs L) ∧ L.length ≤ k ∧ [] ∉ L ∧ (k ≤ t.length → CutTo 32 t k o L) ∧ (t.length < k → L = cutAt 32 t) ∧ Ext w wr) (fun _ _ i _ => t.length + 1 - (intOf i).toNat)
  case atStart => exact ⟨0, 0, [], Nat.zero_le _, rfl, rfl, World.ownsRow_nil _ _ _ _, by simp, by simp, fun _ => CutTo.zero _ _, by omega, Ext.refl _⟩
  case round =>
    obtain ⟨k, o, L, hk, rfl, rfl, hown, hLk, hne, hc1, hc2, hext⟩ := hrel
    rcases Nat.lt_or_ge t.length k with hgt | hle
    · have hg : ¬ (k : Int) ≤ (t.length : Int) := by omega
      have E : L = wordsS t := by
        have e := hc2 hgt
        unfold wordsS
        rw [if_neg (by rw [← e]; exact hne), e]
      subst E
      have HO := Lib.hid hown
      clear hown hc1 hc2 hne
      go_wp2
      go_ret
      exact ⟨_, rfl, hext, HO.out⟩
    · have hz : (k : Int) ≤ (t.length : Int) := by omega
      have hcut := hc1 hle
      have oz := hcut.1
      have CUT := Lib.hid hcut
      have NE := Lib.hid hne
      clear hc1 hc2 hne hcut
      rcases Nat.lt_or_ge k t.length with hlt | hge
      · have hlz : (k : Int) < (t.length : Int) := by omega
        have at1 := AT.out k hlt
        have OTH := Lib.hid (CUT.out.other hlt)
        have CUTX := Lib.hid (CUT.out.cut hlt)
        have EMP := Lib.hid (fun (e : t[k] = 32) (h : k = o) => (show CutTo 32 t k k L by have := CUT.out; rw [← h] at this; exact this).empty (.inr ⟨hlt, e⟩))
        obtain ⟨b, hb⟩ : ∃ b, t[k] = b := ⟨_, rfl⟩
        rw [hb] at OTH CUTX EMP
        have at2 : ∀ h : k < S.size, S[k]'h = b := fun h => (at1 h).trans hb
        clear at1 hb
        by_cases e : b = 32
        · have n1 : ((b.toNat : Int) != 32) = false := by rw [e]; rfl
          by_cases ko : k = o
          · have e1 : ((k : Int) == (o : Int)) = true := by rw [ko]; simp
            have W0 := Lib.hid (EMP.out e ko)
            subst ko
            clear OTH CUTX EMP CUT e hown
            go_wp2
            go_ret
            refine ⟨_, rfl, hext, ?_⟩
            rw [show wordsS t = [] by unfold wordsS; rw [if_pos W0.out]]
            exact World.ownsRow_nil _ _ _ _
          · have e1 : ((k : Int) == (o : Int)) = false := by simp; omega
            have C2 := Lib.hid (CUTX.out e)
            have NE2 : Hid ([] ∉ L ++ [(t.take k).drop o]) := Lib.hid (fun h => by
              rcases List.mem_append.1 h with h | h
              · exact NE.out h
              · have := congrArg List.length (List.mem_singleton.1 h)
                simp at this; omega)
            have ex := EX.out o k
            have SN := Lib.hid (strs_snoc L ((t.take k).drop o))
            obtain ⟨x, hx⟩ : ∃ x, (t.take k).drop o = x := ⟨_, rfl⟩
            rw [hx] at ex SN C2 NE2
            obtain ⟨X, hX⟩ : ∃ X, ba x = X := ⟨_, rfl⟩
            rw [hX] at ex SN
            have oz1 : (o : Int) ≤ (k : Int) := by omega
            have hrow := hown.lt
            have hn2 : L.length + 1 ≤ maxLen := by unfold maxLen; omega
            have hn3 : (L.length + 1) * 16 ≤ 140737488355328 := by omega
            have hbase := hext.size
            clear OTH CUTX EMP CUT e NE hx hX
            go_wp2_with (at_builtin; refine wpList_append_own _ rfl _ _ 43 rfl w.heap.size 9 i0 _ 1 16 Tryd.underlying43 hi0 hz0 hz1 hz2 rfl (by decide) _ _ _ rfl (hown.alloc _) ⟨wr.heap.size, 0, none⟩ 1 1 [.string X] rfl rfl (newsC_1 _ _ _) (oneS_1 _) hn2 hn3 (by simp; omega) ?_; intro v' w1 hown1 hgrow _)
            have X1 : Ext w w1 := Ext.grown (hext.alloc _) hgrow (fun r hr => (hrow r hr).1)
            clear hown hgrow hrow
            go_wp2_with fail
            have hown2 : w1.ownsRow w.heap.size 9 1 v' (L ++ [x]).length (strs (L ++ [x])) := by
              rw [SN.out, List.length_append]; exact hown1
            exact ⟨⟨k + 1, k + 1, L ++ [x], by omega, by go_num, by go_num, hown2, by simp; omega, NE2.out, fun _ => C2.out, by omega, X1⟩, by simp [intOf]; omega⟩
        · have n1 := (byte_ne e).1
          rw [show ((32 : UInt8).toNat : Int) = 32 by rfl] at n1
          have O2 := Lib.hid (OTH.out e)
          clear OTH CUTX EMP CUT e
          go_wp2_with fail
          exact ⟨⟨k + 1, o, L, by omega, by go_num, rfl, hown, by omega, NE.out, fun _ => O2.out, by omega, hext⟩, by simp [intOf]; omega⟩
      · obtain rfl : k = t.length := by omega
        have hlz : ¬ (t.length : Int) < (t.length : Int) := by omega
        have ALL := Lib.hid CUT.out.all
        by_cases ko : t.length = o
        · have e1 : ((t.length : Int) == (o : Int)) = true := by rw [← ko]; simp
          have W0 := Lib.hid ((show CutTo 32 t t.length t.length L by have := CUT.out; rw [← ko] at this; exact this).empty (.inl rfl))
          clear CUT hown
          go_wp2
          go_ret
          refine ⟨_, rfl, hext, ?_⟩
          rw [show wordsS t = [] by unfold wordsS; rw [if_pos W0.out]]
          exact World.ownsRow_nil _ _ _ _
        · have e1 : ((t.length : Int) == (o : Int)) = false := by simp; omega
          have NE2 : Hid ([] ∉ L ++ [t.drop o]) := Lib.hid (fun h => by
            rcases List.mem_append.1 h with h | h
            · exact NE.out h
            · have := congrArg List.length (List.mem_singleton.1 h)
              simp at this; omega)
          have ex := EX.out o t.length
          rw [List.take_length] at ex
          have SN := Lib.hid (strs_snoc L (t.drop o))
          obtain ⟨x, hx⟩ : ∃ x, t.drop o = x := ⟨_, rfl⟩
          rw [hx] at ex SN ALL NE2
          obtain ⟨X, hX⟩ : ∃ X, ba x = X := ⟨_, rfl⟩
          rw [hX] at ex SN
          have oz1 : (o : Int) ≤ (t.length : Int) := by omega
          have hrow := hown.lt
          have hn2 : L.length + 1 ≤ maxLen := by unfold maxLen; omega
          have hn3 : (L.length + 1) * 16 ≤ 140737488355328 := by omega
          have hbase := hext.size
          have HLK := Lib.hid hLk
          clear CUT NE hx hX
          go_wp2_with (at_builtin; refine wpList_append_own _ rfl _ _ 43 rfl w.heap.size 9 i0 _ 1 16 Tryd.underlying43 hi0 hz0 hz1 hz2 rfl (by decide) _ _ _ rfl (hown.alloc _) ⟨wr.heap.size, 0, none⟩ 1 1 [.string X] rfl rfl (newsC_1 _ _ _) (oneS_1 _) hn2 hn3 (by simp; omega) ?_; intro v' w1 hown1 hgrow _)
          have X1 : Ext w w1 := Ext.grown (hext.alloc _) hgrow (fun r hr => (hrow r hr).1)
          clear hown hgrow hrow
          go_wp2_with fail
          have hown2 : w1.ownsRow w.heap.size 9 1 v' (L ++ [x]).length (strs (L ++ [x])) := by
            rw [SN.out, List.length_append]; exact hown1
          exact ⟨⟨t.length + 1, t.length + 1, L ++ [x], by omega, by go_num, by go_num, hown2, by simp; omega, NE2.out, by omega, fun _ => ALL.out.symm, X1⟩, by simp [intOf]⟩
end Go.Proofs.YtfimmcnfmipnlaaDoor
