/- ratchetref26.Parse. -/
import Derived.Test.YtkdfenkpfffcaaaRefDef7
namespace Go.Proofs.Ytkdfenkpfffcaaa
open Go.RowKit
theorem GB.blk {w W : World} {R g : Nat} {t : TypeId} {cs : Array Value} (h : GB w W R) (hb : Blk w g t cs) (hne : g ≠ R) : Blk W g t cs := (h.block g hb.lt (fun e => hne (Option.some.inj e))).trans hb
theorem all_false {ns : List Nat} {k : Nat} (h : k < ns.length) (hb : ¬ (1 ≤ ns[k] ∧ ns[k] ≤ 4096)) : ns.all (fun n => decide (1 ≤ n ∧ n ≤ 4096)) = false := by
  rw [List.all_eq_false]
  exact ⟨ns[k], List.getElem_mem h, by simpa using hb⟩
theorem all_true {ns : List Nat} (h : ∀ j (hj : j < ns.length), 1 ≤ ns[j] ∧ ns[j] ≤ 4096) : ns.all (fun n => decide (1 ≤ n ∧ n ≤ 4096)) = true := by
  rw [List.all_eq_true]
  intro n hn
  obtain ⟨j, hj, rfl⟩ := List.getElem_of_mem hn
  simpa using h j hj
theorem Blk.three {w : World} {g : Nat} {t : TypeId} {x y z : Value} (h : Blk w g t #[x, y, z]) : w.cell? ⟨g, 0, none⟩ = some x ∧ w.cell? ⟨g, 1, none⟩ = some y ∧ w.cell? ⟨g, 2, none⟩ = some z ∧ w.frozen? ⟨g, 0, none⟩ = false ∧ w.frozen? ⟨g, 1, none⟩ = false ∧ w.frozen? ⟨g, 2, none⟩ = false ∧ g < w.heap.size :=
  ⟨h.cell 0, h.cell 1, h.cell 2, h.frozen 0, h.frozen 1, h.frozen 2, h.lt⟩
/-- What stays of a definition in memory while two blocks are stored into. -/
theorem fin_def {base N D D0 : Nat} {v2s : Nat} {w5 W : World} {nv lv : Value} {ns : List Nat} {L : List Lay} {z : Int} {n4 : Nat}
    (hn : w5.ownsRow v2s 3 1 nv ns.length (natsV ns)) (hl : MyLays (fun b => n4 ≤ b ∧ b < w5.heap.size) w5 5 lv L)
    (hD : D < v2s) (hD0 : D0 < v2s) (hb : base ≤ v2s) (h4 : v2s ≤ n4) (hz : w5.heap.size ≤ W.heap.size) (same : ∀ k, k < w5.heap.size → k ≠ D → k ≠ D0 → W.heap[k]? = w5.heap[k]?) (_ : N = 0) :
    DefNew base W (.agg #[nv, lv, .int .i64 z]) ⟨ns.map (fun (n : Nat) => (n : Int)), L, z⟩ := by
  refine ⟨⟨nv, lv, rfl, ?_, hl.keep (fun b hb' => ⟨by have := hb'.1; omega, by have := hb'.2; omega⟩) (fun b hb' hlt => same b hlt (by have := hb'.1; omega) (by have := hb'.1; omega))⟩⟩
  have e1 : (ns.map (fun (n : Nat) => (n : Int))).length = ns.length := by simp
  have e2 : (ns.map (fun (n : Nat) => (n : Int))).map (Value.int .i64) = natsV ns := by simp [natsV, List.map_map, Function.comp_def]
  rw [e1, e2]
  refine ⟨hn.1, ?_⟩
  rcases hn.2 with h0 | ⟨g, cap, cur, hv, hb', hg, h3⟩
  · exact .inl h0
  · exact .inr ⟨g, cap, cur, hv, by omega, (same g (Array.getElem?_eq_some_iff.1 hg).1 (by omega) (by omega)).trans hg, h3⟩
theorem ext_gb {w V W : World} {R : Nat} (x : Ext w V) (g : GB V W R) (h : w.heap.size ≤ R) : Ext w W :=
  ⟨g.os.trans x.os, g.tape.trans x.tape, g.output.trans x.output, Nat.le_trans x.size g.size, fun k hk => (g.block k (Nat.lt_of_lt_of_le hk x.size) (fun e => by have := Option.some.inj e; omega)).trans (x.block k hk)⟩
/-- What Parse tells. -/
def ParsePost (w : World) (P : Option DefL × Nat) (e : Ending) (w' : World) : Prop :=
  ∃ dv, e = .returned (.tuple #[dv, .int .i64 (P.2 : Int), .int .i64 (if P.1.isSome then 0 else 1)]) ∧ Ext w w' ∧ (P.1 = none → dv = zeroDef) ∧ ∀ d, P.1 = some d → DefNew w.heap.size w' dv d
theorem ParsePost.bad {w W : World} {n : Nat} (x : Ext w W) : ParsePost w (none, n) (.returned (.tuple #[zeroDef, .int .i64 n, .int .i64 1])) W :=
  ⟨_, rfl, x, fun _ => rfl, fun d h => by cases h⟩
set_option maxHeartbeats 100000000 in
set_option maxRecDepth 100000 in
theorem parseRef_small {v : Value} {b : Bs} {w : World} (h : RowV w v (bytesV b)) (hb : b.length ≤ 8192) :
    Calls Try.prog 9 #[v] w (ParsePost w (parseS b)) := by
  have hP0 : parseS b = parseR (cutAt 10 b).dropLast (restB b) := by
    unfold parseS; rw [if_neg (by omega), parse_eq]
  rw [hP0]
  have LI := Lib.hid (fun u (x : Ext w u) => linesR_any (h.ext x) (by omega))
  have HLL : ∀ x ∈ (cutAt 10 b).dropLast, x.length ≤ 100000 := fun x hx => by have := cutAt_mem (List.dropLast_subset _ hx); omega
  have HLN : (cutAt 10 b).dropLast.length ≤ 100000 := by have := cutAt_len (c := 10) b; simp; omega
  obtain ⟨ls, hls⟩ : ∃ ls, (cutAt 10 b).dropLast = ls := ⟨_, rfl⟩
  obtain ⟨rest, hr⟩ : ∃ r, restB b = r := ⟨_, rfl⟩
  rw [hls] at LI HLL HLN ⊢
  rw [hr] at LI ⊢
  obtain ⟨P, hP⟩ : ∃ P, parseR ls rest = P := ⟨_, rfl⟩
  rw [hP]
  have HW := Lib.hid HLL
  unfold parseR at hP
  have PR := Lib.hid hP
  obtain ⟨a, cap, rfl, hcap, -, -⟩ := h
  have hl := bytesV_len b
  rw [hl] at LI hcap ⊢
  have hz : ¬ (8192 : Int) < (b.length : Int) := by omega
  obtain ⟨RS, hRS, -, -, -, LRS⟩ := str_of rest
  rw [hRS] at LI
  clear hP0 hls hr hP HLL hl hcap hRS
  go_enter Try.func9, Try.ntmps9
  go_wp2_with fail
  refine (LI.out _ (by repeat (first | with_reducible exact Ext.refl _ | with_reducible apply Ext.drew | with_reducible apply Ext.drewN | with_reducible apply Ext.alloc | ((with_reducible refine Ext.setCell ?_ ?_ _); rotate_left; focus (first | (simp; done) | (simp; omega) | omega)) | with_reducible refine Ext.tr ?_ x1 | with_reducible refine Ext.tr ?_ x2 | with_reducible refine Ext.tr ?_ x3 | with_reducible refine Ext.tr ?_ hx | with_reducible assumption))).mono ?_
  rintro e v1 ⟨lv, rfl, x1, own⟩
  obtain ⟨la, lc, rfl⟩ := own_form0 own
  have RL := Lib.hid (RowV.of_owns own)
  have OL := Lib.hid own
  clear LI own
  go_upto_region 6 with (fail)
  obtain ⟨V, hV⟩ : ∃ V : World, (v1.alloc (.cells #[.slice la ls.length lc, .int .i64 0, .int .i64 0] 96)).alloc (.cells #[.slice none 0 0, .slice none 0 0, .int .i64 0] 28) = V := ⟨_, rfl⟩
  have X1 : Ext v1 V := by rw [← hV]; exact ((Ext.refl v1).alloc _).alloc _
  have XW : Ext w V := by refine Ext.tr (Ext.tr ((Ext.refl w).alloc _) x1) X1
  have BD0 := Lib.hid (((Blk.new w 28 #[.slice none 0 0, .slice none 0 0, .int .i64 0]).ext x1).ext X1)
  have BR := Lib.hid (show Blk V v1.heap.size 96 #[.slice la ls.length lc, .int .i64 0, .int .i64 0] by rw [← hV]; exact (Blk.new v1 _ _).alloc _)
  have BD := Lib.hid (show Blk V (v1.heap.size + 1) 28 #[.slice none 0 0, .slice none 0 0, .int .i64 0] by
    rw [← hV]
    have h1 := Blk.new (v1.alloc (.cells #[.slice la ls.length lc, .int .i64 0, .int .i64 0] 96)) 28 #[.slice none 0 0, .slice none 0 0, .int .i64 0]
    rw [World.size_alloc] at h1
    exact h1)
  have zV : V.heap.size = v1.heap.size + 2 := by rw [← hV]; simp
  have z1 : w.heap.size < v1.heap.size := by have h1 := x1.size; rw [World.size_alloc] at h1; omega
  have RLV := Lib.hid (RL.out.ext X1)
  have OFF := Lib.hid (show ∀ q, (Value.slice la ls.length lc).ownBlock = some q → q < v1.heap.size from fun q hq => (OL.out.lt q hq).2)
  rw [hV]
  obtain ⟨R, hR⟩ : ∃ R, v1.heap.size = R := ⟨_, rfl⟩
  rw [hR] at BR BD zV z1 OFF ⊢
  clear hV X1 x1 RL OL hR
  obtain ⟨k0, k1, k2, q0, q1, q2, zD0⟩ := BD0.out.three
  rcases Nat.eq_zero_or_pos ls.length with h0 | h0
  · have hls0 : ((ls.length : Int) == 0) = true := by rw [beq_iff_eq]; omega
    have PE : P = (none, 0) := by have := PR.out; rw [List.getElem?_eq_none (by omega)] at this; exact this.symm
    clear PR RLV OFF BR BD
    subst PE
    go_wp2_with fail
    (try rw [Exit.noGoto_ret])
    change bodyPost _ _ _ _ _ _
    refine bodyPost_ret (v := .tuple #[zeroDef, .int .i64 0, .int .i64 1]) ?_ rfl ?_
    · simp [results, Try.results9, go_sem, zeroDef, k0, k1, k2]
    · exact ParsePost.bad (by repeat (first | with_reducible exact Ext.refl _ | with_reducible apply Ext.drew | with_reducible apply Ext.drewN | with_reducible apply Ext.alloc | ((with_reducible refine Ext.setCell ?_ ?_ _); rotate_left; focus (first | (simp; done) | (simp; omega) | omega)) | with_reducible refine Ext.tr ?_ x1 | with_reducible refine Ext.tr ?_ x2 | with_reducible refine Ext.tr ?_ x3 | with_reducible refine Ext.tr ?_ hx | with_reducible assumption))
  · have hls0 : ((ls.length : Int) == 0) = false := by rw [beq_eq_false_iff_ne]; omega
    have hls1 : (0 : Int) < (ls.length : Int) := by omega
    obtain ⟨b1, o1, rfl, hc1⟩ : ∃ b1 o1, la = some ⟨b1, o1, none⟩ ∧ ∀ i, i < (strs ls).length → V.cell? ⟨b1, o1 + i, none⟩ = (strs ls)[i]? := by
      obtain ⟨a', c', e', -, -, h3⟩ := RLV.out
      injection e' with e1 e2 e3
      subst e1
      exact h3 (by intro e; have := congrArg List.length e; rw [strs_len] at this; simp at this; rw [this] at h0; simp at h0)
    have f0 : V.cell? ⟨b1, o1, none⟩ = some (.string (ba ls[0])) := (hc1 0 (by rw [strs_len]; exact h0)).trans (by simp [strs, h0])
    have zf := cell_lt f0
    simp only at zf
    have hs := HW.out _ (List.getElem_mem h0)
    have HPS := PR.out
    rw [List.getElem?_eq_getElem h0] at HPS
    simp only at HPS
    replace PR := Lib.hid HPS
    clear HPS hc1
    generalize ls[0] = s at *
    have WO := Lib.hid (fun u => wordsR_any s u hs)
    obtain ⟨x, ws, hx⟩ := cutAt_some 32 s
    have hmem : ∀ y ∈ x :: ws, y.length ≤ 100000 := fun y hy => by have := cutAt_mem (c := 32) (s := s) (x := y) (by rw [hx]; exact hy); omega
    have hlen : (x :: ws).length ≤ 100001 := by rw [← hx]; have := cutAt_len (c := 32) s; omega
    have hwl0 : ws.length ≤ 100000 := by rw [List.length_cons] at hlen; omega
    rw [hx] at WO PR
    simp only [List.tail_cons, List.headD_cons] at PR
    obtain ⟨S, hS⟩ : ∃ S, ba s = S := ⟨_, rfl⟩
    rw [hS] at WO f0
    have HM := Lib.hid hmem
    clear hS hx hmem hlen hs
    go_wp2_with fail
    refine (WO.out _).mono ?_
    rintro e v2 ⟨l1, rfl, x2, own⟩
    obtain ⟨a1, c1, rfl⟩ := own_form0 own
    have RV := RowV.of_owns own
    obtain ⟨g, o, rfl, hn, hnc, hcm, g0, RT⟩ := RV.tail
    have AL := Lib.hid (allR_any RT (fun y hy => HM.out y (by simp [hy])) hwl0)
    have AL0 := Lib.hid (fun (h : c1 = 1) => allR_any (v := .slice (some ⟨g, o, none⟩) ws.length 0) (L := ws) (w := v2) (by
      have h0 : ws = [] := by
        apply List.eq_nil_of_length_eq_zero
        have h1 := hnc
        rw [List.length_cons] at h1
        omega
      subst h0
      exact ⟨_, _, rfl, Nat.zero_le _, by omega, fun h => absurd rfl h⟩) (fun y hy => HM.out y (by simp [hy])) hwl0)
    have hwl : (x :: ws).length = ws.length + 1 := rfl
    rw [List.length_map] at AL
    have hcz : ((ws.length + 1 : Nat) : Int) ≤ (c1 : Int) := by have h := hnc; rw [List.length_cons] at h; omega
    obtain ⟨X, hX, -, -, -, LX⟩ := str_of x
    replace g0 : v2.cell? ⟨g, o, none⟩ = some (.string (ba x)) := g0
    rw [hX] at g0
    have zg := cell_lt g0
    simp only at zg
    rw [hwl]
    have zx2 := x2.size
    clear own RV RT WO hn hnc hcm hX k0 k1 k2 q0 q1 q2 f0 hwl
    go_upto_region 9 with (fail)
    go_cut [10, 11] (fun s5 s6 wx => ∃ v3 iv ok, v3 = wx ∧ s5 = iv ∧ s6 = .bool ok ∧ Ext v2 v3 ∧ allRes v2.heap.size v3 iv ok (allB ws))
    case first =>
      by_cases hc1 : c1 = 1
      · have AL1 := Lib.hid (AL0.out hc1)
        clear AL AL0
        subst hc1
        go_wp2_with fail
        refine AL1.out.mono ?_
        rintro e v3 ⟨iv, ok, rfl, x3, res⟩
        clear AL1
        go_wp2_with fail
        go_meet
        exact ⟨_, _, _, rfl, rfl, rfl, x3, res⟩
      · clear AL0
        go_wp2_with fail
        refine AL.out.mono ?_
        rintro e v3 ⟨iv, ok, rfl, x3, res⟩
        clear AL
        go_wp2_with fail
        go_meet
        exact ⟨_, _, _, rfl, rfl, rfl, x3, res⟩
    obtain ⟨v3, iv, ok, rfl, rfl, rfl, x3, res⟩ := hcut
    clear AL AL0
    have X3 := x2.tr x3
    replace g0 := x3.cell g0
    have BD03 := Lib.hid (BD0.out.ext X3)
    have BR3 := Lib.hid (BR.out.ext X3)
    have BD3 := Lib.hid (BD.out.ext X3)
    have RL3 := Lib.hid (RLV.out.ext X3)
    have XW3 := XW.tr X3
    have z23 := x3.size
    obtain ⟨k0, k1, k2, q0, q1, q2, zD0'⟩ := BD03.out.three
    clear BD0 BR BD RLV XW X3 x2 x3
    by_cases hxi : x = inputB
    · have E1 : (X.toList == [105, 110, 112, 117, 116]) = true := by rw [LX.out, hxi]; rfl
      have E2 : (X.toList != [105, 110, 112, 117, 116]) = false := by rw [bne, E1]; rfl
      cases ha : allB ws with
      | none =>
        rw [ha] at res PR
        obtain ⟨rfl, rfl⟩ := res
        have PE : P = (none, 0) := PR.out.symm
        clear PR ha hxi LX
        subst PE
        go_wp2_with fail
        (try rw [Exit.noGoto_ret])
        change bodyPost _ _ _ _ _ _
        refine bodyPost_ret (v := .tuple #[zeroDef, .int .i64 0, .int .i64 1]) ?_ rfl ?_
        · simp [results, Try.results9, go_sem, zeroDef, k0, k1, k2]
        · exact ParsePost.bad (by repeat (first | with_reducible exact Ext.refl _ | with_reducible apply Ext.drew | with_reducible apply Ext.drewN | with_reducible apply Ext.alloc | ((with_reducible refine Ext.setCell ?_ ?_ _); rotate_left; focus (first | (simp; done) | (simp; omega) | omega)) | with_reducible refine Ext.tr ?_ x1 | with_reducible refine Ext.tr ?_ x2 | with_reducible refine Ext.tr ?_ x3 | with_reducible refine Ext.tr ?_ hx | with_reducible assumption))
      | some ns =>
        rw [ha] at res PR
        simp only at PR
        obtain ⟨rfl, own⟩ := res
        obtain ⟨ia, ic, rfl⟩ := own_form0 own
        have NL : ns.length ≤ 100000 := by have := allB_len ha; omega
        have RN := Lib.hid (show RowV v3 (.slice ia ns.length ic) (natsV ns) from RowV.of_owns own)
        have ON := Lib.hid own
        clear own ha LX
        by_cases hnl : ns.length < 1 ∨ 3 < ns.length
        · have PE : P = (none, 0) := PR.out.symm.trans (if_pos (Or.inr hnl))
          clear PR hxi
          subst PE
          rcases hnl with hnl | hnl
          · have hnz : (ns.length : Int) < 1 := by omega
            clear hnl
            go_wp2_with fail
            (try rw [Exit.noGoto_ret])
            change bodyPost _ _ _ _ _ _
            refine bodyPost_ret (v := .tuple #[zeroDef, .int .i64 0, .int .i64 1]) ?_ rfl ?_
            · simp [results, Try.results9, go_sem, zeroDef, k0, k1, k2]
            · exact ParsePost.bad (by repeat (first | with_reducible exact Ext.refl _ | with_reducible apply Ext.drew | with_reducible apply Ext.drewN | with_reducible apply Ext.alloc | ((with_reducible refine Ext.setCell ?_ ?_ _); rotate_left; focus (first | (simp; done) | (simp; omega) | omega)) | with_reducible refine Ext.tr ?_ x1 | with_reducible refine Ext.tr ?_ x2 | with_reducible refine Ext.tr ?_ x3 | with_reducible refine Ext.tr ?_ hx | with_reducible assumption))
          · have hnz : ¬ (ns.length : Int) < 1 := by omega
            have hnz3 : (3 : Int) < (ns.length : Int) := by omega
            clear hnl
            go_wp2_with fail
            (try rw [Exit.noGoto_ret])
            change bodyPost _ _ _ _ _ _
            refine bodyPost_ret (v := .tuple #[zeroDef, .int .i64 0, .int .i64 1]) ?_ rfl ?_
            · simp [results, Try.results9, go_sem, zeroDef, k0, k1, k2]
            · exact ParsePost.bad (by repeat (first | with_reducible exact Ext.refl _ | with_reducible apply Ext.drew | with_reducible apply Ext.drewN | with_reducible apply Ext.alloc | ((with_reducible refine Ext.setCell ?_ ?_ _); rotate_left; focus (first | (simp; done) | (simp; omega) | omega)) | with_reducible refine Ext.tr ?_ x1 | with_reducible refine Ext.tr ?_ x2 | with_reducible refine Ext.tr ?_ x3 | with_reducible refine Ext.tr ?_ hx | with_reducible assumption))
        · have hnz : ¬ (ns.length : Int) < 1 := by omega
          have hnz3 : ¬ (3 : Int) < (ns.length : Int) := by omega
          replace PR := PR.out
          have PR2 := Lib.hid ((@if_neg _ _ (show ¬ (x ≠ inputB ∨ ns.length < 1 ∨ 3 < ns.length) by rintro (h | h); exact h hxi; exact hnl h) _ _ _).symm.trans PR)
          clear PR hnl hxi
          go_wp2_with fail
          go_loopw [12] (fun i wr => ∃ k : Nat, k ≤ ns.length ∧ i = .int .i64 k ∧ (∀ j (hj : j < ns.length), j < k → 1 ≤ ns[j] ∧ ns[j] ≤ 4096) ∧ wr = v3) (fun i _ => ns.length - (intOf i).toNat)
          case atStart => exact ⟨0, Nat.zero_le _, rfl, fun j _ h => absurd h (Nat.not_lt_zero j), rfl⟩
          case round =>
            obtain ⟨k, hk, rfl, hall, hwr⟩ := hrel
            subst hwr
            have HA := Lib.hid hall
            clear hall
            rcases Nat.lt_or_ge k ns.length with hlt | hge
            · have hkz : (k : Int) < (ns.length : Int) := by omega
              obtain ⟨gn, on_, rfl, c0⟩ := natsV_at RN.out hlt
              have zc := cell_lt c0
              simp only at zc
              have AF := Lib.hid (fun h => all_false (ns := ns) hlt h)
              have HB := Lib.hid (fun (h : 1 ≤ ns[k] ∧ ns[k] ≤ 4096) j (hj : j < ns.length) (hjk : j < k + 1) => (show 1 ≤ ns[j] ∧ ns[j] ≤ 4096 by
                rcases Nat.lt_succ_iff_lt_or_eq.1 hjk with h' | rfl
                · exact HA.out j hj h'
                · exact h))
              generalize hn : ns[k] = n at *
              clear hn
              by_cases h0' : (n : Int) < 1
              · have PE : P = (none, 0) := by exact PR2.out.symm.trans (if_pos (AF.out (by omega)))
                clear PR2 AF HB
                subst PE
                go_wp2_with fail
                (try rw [Exit.noGoto_ret])
                change bodyPost _ _ _ _ _ _
                refine bodyPost_ret (v := .tuple #[zeroDef, .int .i64 0, .int .i64 1]) ?_ rfl ?_
                · simp [results, Try.results9, go_sem, zeroDef, k0, k1, k2]
                · exact ParsePost.bad (by repeat (first | with_reducible exact Ext.refl _ | with_reducible apply Ext.drew | with_reducible apply Ext.drewN | with_reducible apply Ext.alloc | ((with_reducible refine Ext.setCell ?_ ?_ _); rotate_left; focus (first | (simp; done) | (simp; omega) | omega)) | with_reducible refine Ext.tr ?_ x1 | with_reducible refine Ext.tr ?_ x2 | with_reducible refine Ext.tr ?_ x3 | with_reducible refine Ext.tr ?_ hx | with_reducible assumption))
              · by_cases h4' : (4096 : Int) < (n : Int)
                · have PE : P = (none, 0) := by exact PR2.out.symm.trans (if_pos (AF.out (by omega)))
                  clear PR2 AF HB
                  subst PE
                  go_wp2_with fail
                  (try rw [Exit.noGoto_ret])
                  change bodyPost _ _ _ _ _ _
                  refine bodyPost_ret (v := .tuple #[zeroDef, .int .i64 0, .int .i64 1]) ?_ rfl ?_
                  · simp [results, Try.results9, go_sem, zeroDef, k0, k1, k2]
                  · exact ParsePost.bad (by repeat (first | with_reducible exact Ext.refl _ | with_reducible apply Ext.drew | with_reducible apply Ext.drewN | with_reducible apply Ext.alloc | ((with_reducible refine Ext.setCell ?_ ?_ _); rotate_left; focus (first | (simp; done) | (simp; omega) | omega)) | with_reducible refine Ext.tr ?_ x1 | with_reducible refine Ext.tr ?_ x2 | with_reducible refine Ext.tr ?_ x3 | with_reducible refine Ext.tr ?_ hx | with_reducible assumption))
                · have H2 := Lib.hid (HB.out ⟨by omega, by omega⟩)
                  clear AF HB
                  go_wp2_with fail
                  exact ⟨⟨k + 1, by omega, by go_num, H2.out, trivial⟩, by simp [intOf]; omega⟩
            · have hkz : ¬ (k : Int) < (ns.length : Int) := by omega
              have AT := Lib.hid (all_true (ns := ns) (fun j hj => HA.out j hj (by omega)))
              replace PR2 := PR2.out
              have PR := Lib.hid ((@if_neg _ _ (show ¬ ns.all (fun n => decide (1 ≤ n ∧ n ≤ 4096)) = false by rw [AT.out]; simp) _ _ _).symm.trans PR2)
              obtain ⟨d0, d1, d2, e0, e1, e2, zD⟩ := BD3.out.three
              obtain ⟨r0, r1, r2, s0, s1, s2, zR⟩ := BR3.out.three
              clear PR2 HA AT
              go_upto_region 19 with (fail)
              obtain ⟨V4, hV4⟩ : ∃ V4 : World, (wr.setCell ⟨R + 1, 0, none⟩ (.slice ia ns.length ic)).setCell ⟨R, 1, none⟩ (.int .i64 1) = V4 := ⟨_, rfl⟩
              have BD4 := Lib.hid (show Blk V4 (R + 1) 28 #[.slice ia ns.length ic, .slice none 0 0, .int .i64 0] by rw [← hV4]; exact (BD3.out.set_ 0 _).far (p := ⟨R, 1, none⟩) (by show R + 1 ≠ R; omega) _)
              have BR4 := Lib.hid (show Blk V4 R 96 #[.slice (some ⟨b1, o1, none⟩) ls.length lc, .int .i64 1, .int .i64 0] by rw [← hV4]; exact (BR3.out.far (p := ⟨R + 1, 0, none⟩) (by show R ≠ R + 1; omega) _).set_ 1 _)
              have BD04 := Lib.hid (show Blk V4 w.heap.size 28 #[.slice none 0 0, .slice none 0 0, .int .i64 0] by rw [← hV4]; exact (BD03.out.far (p := ⟨R + 1, 0, none⟩) (by show w.heap.size ≠ R + 1; omega) _).far (p := ⟨R, 1, none⟩) (by show w.heap.size ≠ R; omega) _)
              have ob1 : b1 < R := OFF.out b1 rfl
              have RL4 := Lib.hid (show RowV V4 (.slice (some ⟨b1, o1, none⟩) ls.length lc) (strs ls) by
                rw [← hV4]
                exact (RL3.out.gb ((GB.refl wr (R + 1)).set 0 _) (fun q e => by cases e; show b1 ≠ R + 1; omega)).gb ((GB.refl _ R).set 1 _) (fun q e => by cases e; show b1 ≠ R; omega))
              have XW4 : Ext w V4 := by rw [← hV4]; exact (XW3.setCell (by show _ ≤ R + 1; omega) _).setCell (by show _ ≤ R; omega) _
              have ON4 := Lib.hid (show V4.ownsRow v2.heap.size 3 1 (.slice ia ns.length ic) ns.length (natsV ns) by
                rw [← hV4]
                have hne : ∀ q, (Value.slice ia ns.length ic).ownBlock = some q → v2.heap.size ≤ q := fun q hq => (ON.out.lt q hq).1
                exact own_gb (own_gb ON.out ((GB.refl wr (R + 1)).set 0 _) (fun e => by have := hne _ e; omega)) ((GB.refl _ R).set 1 _) (fun e => by have := hne _ e; omega))
              have z4 : wr.heap.size = V4.heap.size := by rw [← hV4]; simp
              have zh4 : v2.heap.size ≤ V4.heap.size := by omega
              rw [hV4]
              have IHC : Hid (Calls Try.prog 48 #[.pointer (some ⟨R, 0, none⟩), .int .i64 0] V4 fun e' w' => ∃ lv ok, e' = .returned (.tuple #[lv, .bool ok]) ∧ BodyResR V4 w' R (.slice (some ⟨b1, o1, none⟩) ls.length lc) ls 4 (bodyR ls (ls.length + 1) 0 1 0 []) lv ok) :=
                Lib.hid (bodyR_any 4 0 rfl (v := .slice (some ⟨b1, o1, none⟩) ls.length lc) (i := 1) (count := 0) ⟨BR4.out, RL4.out, fun q e => by cases e; show b1 ≠ R; omega⟩ HLN HW.out (by omega) (by omega) (ls.length + 1) (by omega))
              clear hV4 k0 k1 k2 q0 q1 q2 d0 d1 d2 e0 e1 e2 r0 r1 r2 s0 s1 s2 g0 BD3 BR3 BD03 RL3 ON RN z4 XW3
              go_wp2_with fail
              refine IHC.out.mono ?_
              rintro e' w5 ⟨lv, ok, rfl, res⟩
              clear IHC
              obtain ⟨⟨ro, i', c'⟩, hp⟩ : ∃ p, bodyR ls (ls.length + 1) 0 1 0 [] = p := ⟨_, rfl⟩
              have bat := bodyR_at ls (ls.length + 1) 0 1 0 []
              rw [hp] at res PR bat
              obtain ⟨rgb, rrd, rno, ryes⟩ := res
              simp only at rrd rno ryes bat
              have hi2 : i' ≤ ls.length := bat.2.2.1 (by omega)
              have XW5 : Ext w w5 := ext_gb XW4 rgb (by omega)
              have BD5 := rgb.blk BD4.out (by omega)
              have BD05 := rgb.blk BD04.out (by omega)
              obtain ⟨d0, d1, d2, e0, e1, e2, zD⟩ := BD5.three
              obtain ⟨k0, k1, k2, q0, q1, q2, zD05⟩ := BD05.three
              obtain ⟨r0, r1, r2, s0, s1, s2, zR⟩ := rrd.blk.three
              have ON5 := Lib.hid (own_gb ON4.out rgb (fun e => by have := (ON4.out.lt _ e).1; omega))
              have RL5 := Lib.hid (RL4.out.gb rgb (fun q e => by cases e; show b1 ≠ R; omega))
              have zw5 := rgb.size
              clear hp bat rrd rgb BD4 BD04 BR4 ON4 RL4 BD5 BD05 XW4
              cases ro with
              | none =>
                obtain ⟨rfl, rfl⟩ := rno rfl
                have PE : P = (none, i') := PR.out.symm
                clear PR rno ryes ON5 RL5
                subst PE
                go_wp2_with fail
                go_region
                all_goals
                  go_wp2_with fail
                  (try rw [Exit.noGoto_ret])
                  change bodyPost _ _ _ _ _ _
                  refine bodyPost_ret (v := .tuple #[zeroDef, .int .i64 i', .int .i64 1]) ?_ rfl ?_
                  · simp [results, Try.results9, go_sem, zeroDef, k0, k1, k2]
                  · exact ParsePost.bad (by repeat (first | with_reducible exact Ext.refl _ | with_reducible apply Ext.drew | with_reducible apply Ext.drewN | with_reducible apply Ext.alloc | ((with_reducible refine Ext.setCell ?_ ?_ _); rotate_left; focus (first | (simp; done) | (simp; omega) | omega)) | with_reducible refine Ext.tr ?_ x1 | with_reducible refine Ext.tr ?_ x2 | with_reducible refine Ext.tr ?_ x3 | with_reducible refine Ext.tr ?_ hx | with_reducible assumption))
              | some L =>
                obtain ⟨rfl, ly⟩ := ryes L rfl
                obtain ⟨la2, lca, rfl⟩ := ly.form
                have LY := Lib.hid ly
                replace PR := PR.out
                simp only at PR
                have PR2 := Lib.hid PR
                clear PR rno ryes ly
                rcases Nat.lt_or_ge i' ls.length with hl2 | hg2
                · have eqz : ((i' : Int) == (ls.length : Int)) = false := by rw [beq_eq_false_iff_ne]; omega
                  have hiz : (i' : Int) < (ls.length : Int) := by omega
                  obtain ⟨_, _, e', -, -, h3⟩ := RL5.out
                  injection e' with e1' e2' e3'
                  obtain ⟨b1', o1', e4', hc5⟩ := h3 (by intro e; have := congrArg List.length e; rw [strs_len] at this; simp at this; rw [this] at hl2; simp at hl2)
                  rw [e4'] at e1'
                  cases e1'
                  have f5 := (hc5 i' (by rw [strs_len]; exact hl2)).trans (show (strs ls)[i']? = some (.string (ba ls[i'])) by simp [strs, hl2])
                  have zf5 := cell_lt f5
                  simp only at zf5
                  have PR3 := PR2.out
                  rw [List.getElem?_eq_getElem hl2] at PR3
                  simp only at PR3
                  have PR := Lib.hid PR3
                  clear hc5 h3 e4' e2' e3' PR2 PR3 RL5
                  generalize ls[i'] = s2 at *
                  obtain ⟨S2, hS2, -, -, -, LS2⟩ := str_of s2
                  rw [hS2] at f5
                  clear hS2
                  obtain ⟨J, hJ⟩ : ∃ J : Nat, i' + 1 = J := ⟨_, rfl⟩
                  have wj : IntKind.i64.wrap ((i' : Int) + 1) = (J : Int) := by rw [IntKind.wrap_i64]; omega
                  rw [hJ] at PR
                  by_cases hx : s2 = lossB ++ 32 :: xentB
                  · have E1 : (S2.toList == [108, 111, 115, 115, 32, 120, 101, 110, 116]) = true := by rw [LS2.out, hx]; rfl
                    have LZ : lossS s2 = 1 := by rw [hx]; decide
                    rw [LZ] at PR
                    clear LZ LS2 hx
                    rw [if_neg (show ¬ (1 : Int) = 0 by decide)] at PR
                    by_cases h7 : J = ls.length
                    · have nez : ((J : Int) != (ls.length : Int)) = false := by rw [bne, beq_iff_eq.2 (by omega)]; rfl
                      by_cases h8 : rest = []
                      · have F1 : (RS.toList != []) = false := by rw [LRS.out, h8]; rfl
                        have F2 : RS.toList.isEmpty = true := by rw [LRS.out, h8]; rfl
                        have PE : P = (some ⟨ns.map (fun (n : Nat) => (n : Int)), L, 1⟩, 0) := PR.out.symm.trans (if_neg (by rintro (h | h); exact h h7; exact h h8))
                        clear PR h7 h8 LRS
                        subst PE
                        have FD := Lib.hid (fun (W : World) (hz : w5.heap.size ≤ W.heap.size) (same : ∀ k, k < w5.heap.size → k ≠ R + 1 → k ≠ w.heap.size → W.heap[k]? = w5.heap[k]?) => fin_def (base := w.heap.size) (N := 0) (z := 1) ON5.out LY.out (show R + 1 < v2.heap.size by omega) (show w.heap.size < v2.heap.size by omega) (by omega) zh4 hz same rfl)
                        go_wp2_with fail
                        (try rw [Exit.noGoto_ret])
                        change bodyPost _ _ _ _ _ _
                        refine bodyPost_ret (v := .tuple #[.agg #[.slice ia ns.length ic, .slice la2 L.length lca, .int .i64 1], .int .i64 0, .int .i64 0]) ?_ rfl ?_
                        · simp [results, Try.results9, go_sem, k0, k1, k2]
                        · exact ⟨_, rfl, (by repeat (first | with_reducible exact Ext.refl _ | with_reducible apply Ext.drew | with_reducible apply Ext.drewN | with_reducible apply Ext.alloc | ((with_reducible refine Ext.setCell ?_ ?_ _); rotate_left; focus (first | (simp; done) | (simp; omega) | omega)) | with_reducible refine Ext.tr ?_ x1 | with_reducible refine Ext.tr ?_ x2 | with_reducible refine Ext.tr ?_ x3 | with_reducible refine Ext.tr ?_ hx | with_reducible assumption)), fun h => (by cases h), fun d h => (by cases h; exact FD.out _ (by simp) (fun k hk h1 h2 => by
                            repeat rw [Below.heap_setCell _ _ _ k (by first | exact h1 | exact h2)]))⟩
                      · have F1 : (RS.toList != []) = true := by rw [LRS.out]; simpa using h8
                        have F2 : RS.toList.isEmpty = false := by rw [LRS.out]; simpa using h8
                        have PE : P = (none, J) := PR.out.symm.trans (if_pos (Or.inr h8))
                        clear PR h7 h8 LRS
                        subst PE
                        go_wp2_with fail
                        go_region
                        all_goals
                          go_wp2_with fail
                          (try rw [Exit.noGoto_ret])
                          change bodyPost _ _ _ _ _ _
                          refine bodyPost_ret (v := .tuple #[zeroDef, .int .i64 J, .int .i64 1]) ?_ rfl ?_
                          · simp [results, Try.results9, go_sem, zeroDef, k0, k1, k2]
                          · exact ParsePost.bad (by repeat (first | with_reducible exact Ext.refl _ | with_reducible apply Ext.drew | with_reducible apply Ext.drewN | with_reducible apply Ext.alloc | ((with_reducible refine Ext.setCell ?_ ?_ _); rotate_left; focus (first | (simp; done) | (simp; omega) | omega)) | with_reducible refine Ext.tr ?_ x1 | with_reducible refine Ext.tr ?_ x2 | with_reducible refine Ext.tr ?_ x3 | with_reducible refine Ext.tr ?_ hx | with_reducible assumption))
                    · have nez : ((J : Int) != (ls.length : Int)) = true := by rw [bne, beq_eq_false_iff_ne.2 (by omega)]; rfl
                      have PE : P = (none, J) := PR.out.symm.trans (if_pos (Or.inl h7))
                      clear PR h7 LRS
                      subst PE
                      go_wp2_with fail
                      go_region
                      all_goals
                        go_wp2_with fail
                        (try rw [Exit.noGoto_ret])
                        change bodyPost _ _ _ _ _ _
                        refine bodyPost_ret (v := .tuple #[zeroDef, .int .i64 J, .int .i64 1]) ?_ rfl ?_
                        · simp [results, Try.results9, go_sem, zeroDef, k0, k1, k2]
                        · exact ParsePost.bad (by repeat (first | with_reducible exact Ext.refl _ | with_reducible apply Ext.drew | with_reducible apply Ext.drewN | with_reducible apply Ext.alloc | ((with_reducible refine Ext.setCell ?_ ?_ _); rotate_left; focus (first | (simp; done) | (simp; omega) | omega)) | with_reducible refine Ext.tr ?_ x1 | with_reducible refine Ext.tr ?_ x2 | with_reducible refine Ext.tr ?_ x3 | with_reducible refine Ext.tr ?_ hx | with_reducible assumption))
                  · have E1 : (S2.toList == [108, 111, 115, 115, 32, 120, 101, 110, 116]) = false := by rw [LS2.out]; simpa [lossB, xentB] using hx
                    by_cases hy : s2 = lossB ++ 32 :: squareB
                    · have E2 : (S2.toList == [108, 111, 115, 115, 32, 115, 113, 117, 97, 114, 101]) = true := by rw [LS2.out, hy]; rfl
                      have LZ : lossS s2 = 2 := by rw [hy]; decide
                      rw [LZ] at PR
                      clear LZ LS2 hx hy
                      rw [if_neg (show ¬ (2 : Int) = 0 by decide)] at PR
                      by_cases h7 : J = ls.length
                      · have nez : ((J : Int) != (ls.length : Int)) = false := by rw [bne, beq_iff_eq.2 (by omega)]; rfl
                        by_cases h8 : rest = []
                        · have F1 : (RS.toList != []) = false := by rw [LRS.out, h8]; rfl
                          have F2 : RS.toList.isEmpty = true := by rw [LRS.out, h8]; rfl
                          have PE : P = (some ⟨ns.map (fun (n : Nat) => (n : Int)), L, 2⟩, 0) := PR.out.symm.trans (if_neg (by rintro (h | h); exact h h7; exact h h8))
                          clear PR h7 h8 LRS
                          subst PE
                          have FD := Lib.hid (fun (W : World) (hz : w5.heap.size ≤ W.heap.size) (same : ∀ k, k < w5.heap.size → k ≠ R + 1 → k ≠ w.heap.size → W.heap[k]? = w5.heap[k]?) => fin_def (base := w.heap.size) (N := 0) (z := 2) ON5.out LY.out (show R + 1 < v2.heap.size by omega) (show w.heap.size < v2.heap.size by omega) (by omega) zh4 hz same rfl)
                          go_wp2_with fail
                          (try rw [Exit.noGoto_ret])
                          change bodyPost _ _ _ _ _ _
                          refine bodyPost_ret (v := .tuple #[.agg #[.slice ia ns.length ic, .slice la2 L.length lca, .int .i64 2], .int .i64 0, .int .i64 0]) ?_ rfl ?_
                          · simp [results, Try.results9, go_sem, k0, k1, k2]
                          · exact ⟨_, rfl, (by repeat (first | with_reducible exact Ext.refl _ | with_reducible apply Ext.drew | with_reducible apply Ext.drewN | with_reducible apply Ext.alloc | ((with_reducible refine Ext.setCell ?_ ?_ _); rotate_left; focus (first | (simp; done) | (simp; omega) | omega)) | with_reducible refine Ext.tr ?_ x1 | with_reducible refine Ext.tr ?_ x2 | with_reducible refine Ext.tr ?_ x3 | with_reducible refine Ext.tr ?_ hx | with_reducible assumption)), fun h => (by cases h), fun d h => (by cases h; exact FD.out _ (by simp) (fun k hk h1 h2 => by
                              repeat rw [Below.heap_setCell _ _ _ k (by first | exact h1 | exact h2)]))⟩
                        · have F1 : (RS.toList != []) = true := by rw [LRS.out]; simpa using h8
                          have F2 : RS.toList.isEmpty = false := by rw [LRS.out]; simpa using h8
                          have PE : P = (none, J) := PR.out.symm.trans (if_pos (Or.inr h8))
                          clear PR h7 h8 LRS
                          subst PE
                          go_wp2_with fail
                          go_region
                          all_goals
                            go_wp2_with fail
                            (try rw [Exit.noGoto_ret])
                            change bodyPost _ _ _ _ _ _
                            refine bodyPost_ret (v := .tuple #[zeroDef, .int .i64 J, .int .i64 1]) ?_ rfl ?_
                            · simp [results, Try.results9, go_sem, zeroDef, k0, k1, k2]
                            · exact ParsePost.bad (by repeat (first | with_reducible exact Ext.refl _ | with_reducible apply Ext.drew | with_reducible apply Ext.drewN | with_reducible apply Ext.alloc | ((with_reducible refine Ext.setCell ?_ ?_ _); rotate_left; focus (first | (simp; done) | (simp; omega) | omega)) | with_reducible refine Ext.tr ?_ x1 | with_reducible refine Ext.tr ?_ x2 | with_reducible refine Ext.tr ?_ x3 | with_reducible refine Ext.tr ?_ hx | with_reducible assumption))
                      · have nez : ((J : Int) != (ls.length : Int)) = true := by rw [bne, beq_eq_false_iff_ne.2 (by omega)]; rfl
                        have PE : P = (none, J) := PR.out.symm.trans (if_pos (Or.inl h7))
                        clear PR h7 LRS
                        subst PE
                        go_wp2_with fail
                        go_region
                        all_goals
                          go_wp2_with fail
                          (try rw [Exit.noGoto_ret])
                          change bodyPost _ _ _ _ _ _
                          refine bodyPost_ret (v := .tuple #[zeroDef, .int .i64 J, .int .i64 1]) ?_ rfl ?_
                          · simp [results, Try.results9, go_sem, zeroDef, k0, k1, k2]
                          · exact ParsePost.bad (by repeat (first | with_reducible exact Ext.refl _ | with_reducible apply Ext.drew | with_reducible apply Ext.drewN | with_reducible apply Ext.alloc | ((with_reducible refine Ext.setCell ?_ ?_ _); rotate_left; focus (first | (simp; done) | (simp; omega) | omega)) | with_reducible refine Ext.tr ?_ x1 | with_reducible refine Ext.tr ?_ x2 | with_reducible refine Ext.tr ?_ x3 | with_reducible refine Ext.tr ?_ hx | with_reducible assumption))
                    · have E2 : (S2.toList == [108, 111, 115, 115, 32, 115, 113, 117, 97, 114, 101]) = false := by rw [LS2.out]; simpa [lossB, squareB] using hy
                      have LZ : lossS s2 = 0 := by unfold lossS; rw [if_neg hx, if_neg hy]
                      rw [LZ, if_pos rfl] at PR
                      have PE : P = (none, i') := PR.out.symm
                      clear PR LZ LS2 hx hy
                      subst PE
                      go_wp2_with fail
                      go_region
                      all_goals
                        go_wp2_with fail
                        (try rw [Exit.noGoto_ret])
                        change bodyPost _ _ _ _ _ _
                        refine bodyPost_ret (v := .tuple #[zeroDef, .int .i64 i', .int .i64 1]) ?_ rfl ?_
                        · simp [results, Try.results9, go_sem, zeroDef, k0, k1, k2]
                        · exact ParsePost.bad (by repeat (first | with_reducible exact Ext.refl _ | with_reducible apply Ext.drew | with_reducible apply Ext.drewN | with_reducible apply Ext.alloc | ((with_reducible refine Ext.setCell ?_ ?_ _); rotate_left; focus (first | (simp; done) | (simp; omega) | omega)) | with_reducible refine Ext.tr ?_ x1 | with_reducible refine Ext.tr ?_ x2 | with_reducible refine Ext.tr ?_ x3 | with_reducible refine Ext.tr ?_ hx | with_reducible assumption))
                · have eqz : ((i' : Int) == (ls.length : Int)) = true := by rw [beq_iff_eq]; omega
                  replace PR2 := PR2.out
                  rw [List.getElem?_eq_none hg2] at PR2
                  have PE : P = (none, i') := PR2.symm
                  clear PR2 ON5 RL5
                  subst PE
                  go_wp2_with fail
                  go_region
                  all_goals
                    go_wp2_with fail
                    (try rw [Exit.noGoto_ret])
                    change bodyPost _ _ _ _ _ _
                    refine bodyPost_ret (v := .tuple #[zeroDef, .int .i64 i', .int .i64 1]) ?_ rfl ?_
                    · simp [results, Try.results9, go_sem, zeroDef, k0, k1, k2]
                    · exact ParsePost.bad (by repeat (first | with_reducible exact Ext.refl _ | with_reducible apply Ext.drew | with_reducible apply Ext.drewN | with_reducible apply Ext.alloc | ((with_reducible refine Ext.setCell ?_ ?_ _); rotate_left; focus (first | (simp; done) | (simp; omega) | omega)) | with_reducible refine Ext.tr ?_ x1 | with_reducible refine Ext.tr ?_ x2 | with_reducible refine Ext.tr ?_ x3 | with_reducible refine Ext.tr ?_ hx | with_reducible assumption))
    · have E1 : (X.toList == [105, 110, 112, 117, 116]) = false := by rw [LX.out]; simpa [inputB] using hxi
      have E2 : (X.toList != [105, 110, 112, 117, 116]) = true := by rw [bne, E1]; rfl
      have PE : P = (none, 0) := by
        have := PR.out
        cases ha : allB ws with
        | none => rw [ha] at this; exact this.symm
        | some ns => rw [ha] at this; simp only at this; exact this.symm.trans (if_pos (Or.inl hxi))
      clear PR LX hxi res
      subst PE
      go_wp2_with fail
      (try rw [Exit.noGoto_ret])
      change bodyPost _ _ _ _ _ _
      refine bodyPost_ret (v := .tuple #[zeroDef, .int .i64 0, .int .i64 1]) ?_ rfl ?_
      · simp [results, Try.results9, go_sem, zeroDef, k0, k1, k2]
      · exact ParsePost.bad (by repeat (first | with_reducible exact Ext.refl _ | with_reducible apply Ext.drew | with_reducible apply Ext.drewN | with_reducible apply Ext.alloc | ((with_reducible refine Ext.setCell ?_ ?_ _); rotate_left; focus (first | (simp; done) | (simp; omega) | omega)) | with_reducible refine Ext.tr ?_ x1 | with_reducible refine Ext.tr ?_ x2 | with_reducible refine Ext.tr ?_ x3 | with_reducible refine Ext.tr ?_ hx | with_reducible assumption))
end Go.Proofs.Ytkdfenkpfffcaaa
