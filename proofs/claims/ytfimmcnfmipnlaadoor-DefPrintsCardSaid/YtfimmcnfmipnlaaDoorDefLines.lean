/- def.lines: what its iterator promises. -/
import Derived.Test.YtfimmcnfmipnlaaDoorKeptY
import Derived.Test.YtfimmcnfmipnlaaDoorStrs
import Derived.Test.YtfimmcnfmipnlaaDoorDefRef
import Derived.Deep.LoopGhost
namespace Go.Proofs.YtfimmcnfmipnlaaDoor
open Go.RowKit Go.Shelf
attribute [local go_sem] Oper.semAt_some
theorem cutAt_no {c : UInt8} : ∀ {r : Bs}, (∀ x ∈ r, x ≠ c) → cutAt c r = [r]
  | [], _ => rfl
  | y :: r, h => by
    rw [cutAt_cons, if_neg (h y (by simp)), cutAt_no (fun x hx => h x (by simp [hx]))]; rfl
theorem cutAt_split {c : UInt8} : ∀ {r : Bs} {k : Nat} (hk : k < r.length), r[k] = c → (∀ j (h : j < r.length), j < k → r[j] ≠ c) → cutAt c r = r.take k :: cutAt c (r.drop (k + 1))
  | y :: r, 0, _, h, _ => by
    simp only [List.getElem_cons_zero] at h
    rw [cutAt_cons, if_pos h]; rfl
  | y :: r, k + 1, hk, h, hn => by
    have h0 : y ≠ c := hn 0 (by simp) (by omega)
    have ih := cutAt_split (r := r) (k := k) (by simpa using hk) (by simpa using h) (fun j hj hjk => by have := hn (j + 1) (by simpa using hj) (by omega); simpa using this)
    rw [cutAt_cons, if_neg h0, ih]; rfl
theorem cutAt_len {c : UInt8} : ∀ (r : Bs), (cutAt c r).length ≤ r.length + 1
  | [] => by simp [cutAt]
  | y :: r => by
    have := cutAt_len (c := c) r
    obtain ⟨h, t, e⟩ := cutAt_some c r
    rw [cutAt_cons]
    split
    · simp; omega
    · rw [e] at this ⊢; simp at this ⊢; omega
/-- Where the lines stand: r is left. -/
def LinesTo (b r : Bs) (pre : List (Value × List Bs)) : Prop := ∃ L, cutAt 10 b = L ++ cutAt 10 r ∧ pre.map (·.2) = L.map wordsS ∧ r.length ≤ b.length
def LinesPre (b : Bs) (pre : List (Value × List Bs)) : Prop := ∃ L R, cutAt 10 b = L ++ R ∧ R ≠ [] ∧ pre.map (·.2) = L.map wordsS
theorem LinesPre.len {b : Bs} {pre : List (Value × List Bs)} (h : LinesPre b pre) : pre.length ≤ b.length := by
  obtain ⟨L, R, e, hR, h⟩ := h
  have a := cutAt_len (c := 10) b
  have c := congrArg List.length h
  rw [e] at a
  have : 0 < R.length := by cases R with | nil => exact absurd rfl hR | cons _ _ => simp
  simp at a c
  omega
def LinesY (x : Value × List Bs) (V W : World) : Prop := Ext V W ∧ W.ownsRow V.heap.size 9 1 x.1 x.2.length (strs x.2)
def strLen (W : World) (B : Nat) : Nat := match W.cell? ⟨B, 0, none⟩ with
  | some (.string s) => s.size
  | _ => 0
theorem lines_any (S : ByteArray) (w : World) :
    Calls Tryd.prog 37 #[.string S] w fun e w' => e = .returned (.func (.func 51) #[] #[.pointer (some ⟨w.heap.size, 0, none⟩)]) ∧ w' = w.alloc (.cells #[.string S] 9) := by
  go_enter Tryd.func37, Tryd.ntmps37
  go_wp2
  go_ret
  exact ⟨rfl, rfl⟩
set_option maxHeartbeats 2000000 in
set_option maxRecDepth 100000 in
theorem lines_iter (d : Nat) (hd : 1 ≤ d) (b : Bs) (hbl : b.length ≤ 100000) (B : Nat) (w0 w : World) (hB : Blk w B 9 #[.string (ba b)]) :
    IterY Fence.wide d Tryd.prog 51 #[.pointer (some ⟨B, 0, none⟩)] (fun x : Value × List Bs => #[x.1]) (KeptD w0 B) (LinesPre b) (fun xs => xs.map (·.2) = (cutAt 10 b).dropLast.map wordsS) LinesY 100000 B w := by
  intro l J Jx W hK hJ hJx hY hN hj0
  have hb : Blk W B 9 #[.string (ba b)] := hK.2.1.trans hB
  clear hK hB hN hJx
  have HJ := Lib.hid hJ
  have HY := Lib.hid hY
  have HJ0 := Lib.hid hj0
  have HB := Lib.hid hb
  have zB := hb.lt
  obtain ⟨S0, hS0, -⟩ := str_of b
  have k0 : W.cell? ⟨B, 0, none⟩ = some (.string S0) := by rw [← hS0]; exact hb.cell 0
  clear hJ hY hj0 hb hS0
  refine callsIn_of_wp Tryd.func51 rfl trivial ?_ rfl
  simp only [Tryd.ntmps51, List.size_toArray, List.length_cons, List.length_nil, Nat.reduceAdd, Nat.reduceSub, Array.replicate_succ, Array.replicate_zero, List.push_toArray, List.append_toArray, List.nil_append, List.cons_append]
  gi_wp2
  clear k0
  gi_loopw [3] (fun _ wr => ∃ (r : Bs) (pre : List (Value × List Bs)), Blk wr B 9 #[.string (ba r)] ∧ LinesTo b r pre ∧ J pre wr) (fun _ wr => strLen wr B)
  case atStart => exact ⟨b, [], HB.out, ⟨[], rfl, rfl, Nat.le_refl _⟩, HJ0.out⟩
  case round =>
    clear HJ0 HB
    obtain ⟨r, pre, hb, hl, hj⟩ := hrel
    obtain ⟨S, hS, SZ, AT, EX, LS⟩ := str_of r
    have MS := Lib.hid (show strLen wr B = r.length by unfold strLen; rw [hb.cell 0]; simp [ba_size])
    rw [hS] at hb
    have k0 : wr.cell? ⟨B, 0, none⟩ = some (.string S) := hb.cell 0
    have f0 := hb.frozen 0
    have HB := Lib.hid hb
    have HL := Lib.hid hl
    have hJ0 := Lib.hid hj
    have hrl : r.length ≤ 100000 := by obtain ⟨_, _, _, h⟩ := hl; omega
    clear hb hl hj hS
    by_cases hr : r = []
    · have e1 : S.toList.isEmpty = true := by rw [LS.out, hr]; rfl
      subst hr
      gi_wp2
      refine bodyPost_end (results_none rfl _ _ _) rfl ?_
      refine ⟨⟨_, rfl⟩, .inl ⟨pre, ?_, hJ0.out⟩⟩
      obtain ⟨L, h1, h2, -⟩ := HL.out
      rw [h2, h1]
      simp [cutAt]
    · have e1 : S.toList.isEmpty = false := by rw [LS.out]; simpa using hr
      gi_wp2
      gi_loopw [3] (fun e wr' => ∃ k : Nat, k ≤ r.length ∧ e = .int .i64 k ∧ (∀ j (h : j < r.length), j < k → r[j] ≠ 10) ∧ wr' = wr) (fun e _ => r.length - (intOf e).toNat)
      case atStart => exact ⟨0, Nat.zero_le _, rfl, fun _ _ h => by omega, rfl⟩
      case round =>
        obtain ⟨k, hk, rfl, hno, hwr⟩ := hrel
        subst hwr
        have NO := Lib.hid hno
        clear hno
        rcases Nat.lt_or_ge k r.length with hlt | hge
        · have hlz : (k : Int) < (r.length : Int) := by omega
          have at1 := AT.out k hlt
          obtain ⟨y, hy⟩ : ∃ y, r[k] = y := ⟨_, rfl⟩
          have at2 : ∀ h : k < S.size, S[k]'h = y := fun h => (at1 h).trans hy
          have HY2 := Lib.hid hy
          clear at1 hy
          by_cases h10 : y = 10
          · have n1 : ((y.toNat : Int) != 10) = false := by rw [h10]; rfl
            have CUT := Lib.hid (cutAt_split (c := 10) hlt (HY2.out.trans h10) NO.out)
            have ex := EX.out 0 k
            have ex2 := EX.out (k + 1) r.length
            rw [List.drop_zero] at ex
            rw [List.take_length] at ex2
            have W1 : IntKind.i64.wrap ((k : Int) + 1) = ((k + 1 : Nat) : Int) := by rw [IntKind.wrap_i64]; omega
            have WO := Lib.hid (fun u => wordsOf_any (r.take k) u (by rw [List.length_take]; omega))
            have hdl : (r.drop (k + 1)).length < r.length := by rw [List.length_drop]; omega
            have hk1 : k + 1 ≤ r.length := hlt
            clear HY2 h10 NO
            generalize r.take k = p1 at *
            generalize r.drop (k + 1) = q1 at *
            have MS2 : Hid (∀ V : World, V.cell? ⟨B, 0, none⟩ = some (.string (ba q1)) → strLen V B = q1.length) := Lib.hid (fun V h => by unfold strLen; rw [h]; simp [ba_size])
            obtain ⟨T1, hT1⟩ : ∃ T1, ba q1 = T1 := ⟨_, rfl⟩
            rw [hT1] at ex2 MS2
            have HT1 := Lib.hid hT1
            have WO1 := Lib.hid (WO.out wr)
            clear WO hT1
            obtain ⟨P1, hP1⟩ : ∃ P1, ba p1 = P1 := ⟨_, rfl⟩
            rw [hP1] at ex WO1
            clear hP1
            gi_wp2
            refine ⟨trivial, ?_⟩
            refine (callsIn_wide.2 WO1.out).mono ?_
            rintro e v4 ⟨v, rfl, x4, own⟩
            have k4 := x4.cell k0
            have zB4 := cell_lt k4
            simp only at zB4
            have zw := cell_lt k0
            simp only at zw
            have YY : LinesY (v, wordsS p1) _ v4 := ⟨x4, own⟩
            have PP : LinesPre b (pre ++ [(v, wordsS p1)]) := by
              obtain ⟨L, h1, h2, -⟩ := HL.out
              refine ⟨L ++ [p1], cutAt 10 q1, by rw [h1, CUT.out]; simp, ?_, by simp [h2]⟩
              obtain ⟨h, tl, e⟩ := cutAt_some 10 q1
              rw [e]; simp
            have LT : LinesTo b q1 (pre ++ [(v, wordsS p1)]) := by
              obtain ⟨L, h1, h2, h3⟩ := HL.out
              exact ⟨L ++ [p1], by rw [h1, CUT.out]; simp, by simp [h2], by omega⟩
            have hyy := HY.out pre (v, wordsS p1) _ v4 PP hJ0.out (HJ.out pre _ v4 hJ0.out (x4.grow _)) YY
            obtain ⟨fn, tmps, assign, body, hy, hR⟩ := hyy
            have HR := Lib.hid hR
            have HP := Lib.hid PP
            have HLT := Lib.hid LT
            have HB4 := Lib.hid (HB.out.ext x4)
            clear WO1 own YY PP LT hR k0 f0 HB x4
            simp only at hy
            gi_wp2
            refine HR.out.mono ?_
            rintro e W3 (⟨rfl, hJ3, hk3⟩ | ⟨rfl, hJx3⟩)
            · have hb3 : Blk W3 B 9 #[.string S] := hk3.2.1.trans HB4.out
              have k5 : W3.cell? ⟨B, 0, none⟩ = some (.string S) := hb3.cell 0
              have f5 := hb3.frozen 0
              have hb5 : Blk (W3.setCell ⟨B, 0, none⟩ (.string T1)) B 9 #[.string T1] := hb3.set_ 0 _
              have HM := Lib.hid (MS2.out _ (hb5.cell 0))
              have HB5 := Lib.hid hb5
              have HJ5 := Lib.hid (HJ.out _ _ _ hJ3 (grow_at W3 B 0 (.string T1)))
              have hkl : ((k + 1 : Nat) : Int) ≤ (r.length : Int) := by omega
              clear hb3 hb5 hk3 hJ3 HR hy k4 HB4
              gi_wp2
              go_roundw
              case rel => exact ⟨q1, _, by rw [HT1.out]; exact HB5.out, HLT.out, HJ5.out⟩
              case measure => rw [HM.out, MS.out]; exact hdl
            · gi_wp2
              refine bodyPost_ret (results_none rfl _ _ _) rfl ?_
              exact ⟨⟨_, rfl⟩, .inr ⟨_, HP.out, hJx3⟩⟩
          · have n1 := (byte_ne h10).1
            rw [show ((10 : UInt8).toNat : Int) = 10 by rfl] at n1
            have NO2 : Hid (∀ j (h : j < r.length), j < k + 1 → r[j] ≠ 10) := Lib.hid (fun j h hjk => by
              rcases Nat.lt_succ_iff_lt_or_eq.1 hjk with h' | rfl
              · exact NO.out j h h'
              · exact (by rw [HY2.out]; exact h10))
            clear HY2 h10 NO
            gi_wp2
            go_roundw
            case rel => exact ⟨k + 1, by omega, by go_num, NO2.out, by first | exact trivial | rfl⟩
            case measure => simp [intOf]; omega
        · have e2 : k = r.length := by omega
          subst e2
          have hlz : ¬ (r.length : Int) < (r.length : Int) := by omega
          have CUT := Lib.hid (cutAt_no (c := 10) (r := r) (fun x hx => by
            obtain ⟨j, hj, e⟩ := List.getElem_of_mem hx
            rw [← e]; exact NO.out j hj hj))
          clear NO
          gi_wp2
          refine bodyPost_ret (results_none rfl _ _ _) rfl ?_
          refine ⟨⟨_, rfl⟩, .inl ⟨pre, ?_, hJ0.out⟩⟩
          obtain ⟨L, h1, h2, -⟩ := HL.out
          rw [h2, h1, CUT.out]
          simp
end Go.Proofs.YtfimmcnfmipnlaaDoor
