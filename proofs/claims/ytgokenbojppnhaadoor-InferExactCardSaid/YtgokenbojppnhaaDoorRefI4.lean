/- InferExact: rows written over; parameters compared; ratchetlaw27.Told. InferExact: what is told in one form; parameters whose shapes may have been written over. InferExact: the walk. InferExact: the law, of any argument. -/
import Derived.Test.YtgokenbojppnhaaDoorRefI3
import Derived.Test.YtgokenbojppnhaaDoorRefMay4
import Derived.Maps.AppendAt
import Derived.Deep.RegionHeld3
import Derived.Test.YtgokenbojppnhaaDoorDefOpen
import Derived.Test.YtgokenbojppnhaaDoorDefUse
namespace Go.Proofs.YtgokenbojppnhaaDoor
open Go.RowKit
/-- append onto an own row: the row itself stays one (of other numbers perhaps). -/
theorem run_append_keeps {P : Program} (w : World) (base : Nat) (t ty e : TypeId) (i : TypeInfo) (z : Value) (bytes : Nat) (ht : P.underlying t = some (.slice e)) (hi : P.info? e = some i) (hz : i.zero = some z)
    (hsize : i.size = 1) (hby : i.bytes = bytes) (hzs : z.cells.size = 1)
    (v : Value) (n : Nat) (xs : List Value) (hown : w.ownsRow base e 1 v n xs)
    (a : Addr) (m c : Nat) (news : List Value) (hl : news.length = m * 1) (hnews : ∀ j u, news[j]? = some u → w.cell? (a.add j) = some u) (h1 : ∀ u ∈ news, u.oneCell' = true)
    (h63 : n + m ≤ maxLen) (hbytes : (n + m) * bytes ≤ 140737488355328) (hbase : base ≤ w.heap.size) :
    ∃ v' w', (Builtin.append_ #[t, t] ty #[v, .slice (some a) m c]).run P w = .ok v' w' ∧ w.grownBy w' v.ownBlock ∧ ∃ ys, w'.ownsRow base e 1 v n ys := by
  have hown0 := hown
  rcases hown.2 with ⟨rfl, rfl⟩ | ⟨g, cap, cur, rfl, hbg, hg, hnc, hcm, hcs, htake⟩
  · obtain ⟨v', w', hr, -, h3, -⟩ := run_append_own (P := P) w base t ty e i z 1 bytes ht hi hz hsize hby hzs (by omega) _ _ xs hown0 a m c news hl hnews h1 h63 hbytes hbase
    exact ⟨v', w', hr, h3, [], World.ownsRow_nil _ _ _ _⟩
  · by_cases hroom : n + m ≤ cap
    · have hr := run_append_room (P := P) w t ty e i ht hi g n cap cur hg a m c news (by rw [hsize]; exact hl) hnews h1 hroom (by rw [hsize, hl, hcs]; omega)
      refine ⟨_, _, hr, ⟨rfl, rfl, rfl, by simp, fun k _ hk => setRow_other w g k _ (fun e => hk (by simp [Value.ownBlock, e]))⟩, _, ⟨?_, .inr ⟨g, cap, _, rfl, hbg, setRow_heap w g cur _ e _ hg, hnc, hcm, ?_, rfl⟩⟩⟩
      · simp only [List.length_take, List.length_append, List.length_drop, Array.length_toList, hsize]
        omega
      · simp only [List.size_toArray, List.length_append, List.length_take, List.length_drop, Array.length_toList, hsize]
        omega
    · have holds : ∀ j u, xs[j]? = some u → w.cell? ((⟨g, 0, none⟩ : Addr).add j) = some u := hown0.cells (g := g) rfl
      have hr := run_append_grow (P := P) w t ty e i z ht hi hz ⟨g, 0, none⟩ n cap xs (by rw [hsize]; exact hown0.1) holds a m c news (by rw [hsize]; exact hl) hnews (by omega) (by unfold maxLen at h63; omega) (growslice_fits (by unfold maxLen at h63; omega) (by rw [hby]; exact hbytes))
      exact ⟨_, _, hr, ⟨rfl, rfl, rfl, by simp, fun k hk _ => Below.heap_alloc w.drew _ k hk⟩, xs, own_old hown0 (((Ext.refl w).drew).alloc _)⟩
theorem wpList_append_keeps {P : Program} {w : World} {ops : Array Oper} {rest : List Oper} {o : Oper} {a : Act} {Q : Exit → Act → World → Prop} (hgd : o.guard = none) (s x : Operand) (t : TypeId)
    (ho : o.op = .call { callee := .builtin .append, args := #[s, x], argTypes := #[t, t] })
    (base : Nat) (e : TypeId) (i : TypeInfo) (z : Value) (bytes : Nat) (ht : P.underlying t = some (.slice e)) (hi : P.info? e = some i) (hz : i.zero = some z)
    (hsize : i.size = 1) (hby : i.bytes = bytes) (hzs : z.cells.size = 1)
    (v : Value) (n : Nat) (xs : List Value) (hs : a.eval s = v) (hown : w.ownsRow base e 1 v n xs)
    (ad : Addr) (m c : Nat) (news : List Value) (hx : a.eval x = .slice (some ad) m c) (hl : news.length = m * 1) (hnews : ∀ j u, news[j]? = some u → w.cell? (ad.add j) = some u) (h1 : ∀ u ∈ news, u.oneCell' = true)
    (h63 : n + m ≤ maxLen) (hbytes : (n + m) * bytes ≤ 140737488355328) (hbase : base ≤ w.heap.size)
    (h : ∀ v' w', w.grownBy w' v.ownBlock → (∃ ys, w'.ownsRow base e 1 v n ys) → wpList P ops Q rest (a.put o.dst v') w') : wpList P ops Q (o :: rest) a w :=
  wpList_plain hgd fun _ hK => by
    obtain ⟨v', w', hr, h2, h3⟩ := run_append_keeps (P := P) w base t o.type e i z bytes ht hi hz hsize hby hzs v n xs hown ad m c news hl hnews h1 h63 hbytes hbase
    unfold Oper.wp execOp
    simp only [ho, resolve, invoke, builtin, Sem.run_bind, Sem.run_pure, Result.andThen_ok, List.map_toArray, List.map_cons, List.map_nil, hs, hx, hr]
    exact hK _ _ (h v' w' h2 h3)
/-- A row beside one that was written over, or the same. -/
theorem own_alias {w w' : World} {base : Nat} {u v : Value} {m n : Nat} {xs ys zs : List Value} (hu : w.ownsRow base 3 1 u m ys) (hg : w.grownBy w' v.ownBlock) (hv0 : w.ownsRow base 3 1 v n xs) (hv : w'.ownsRow base 3 1 v n zs) : ∃ ys', w'.ownsRow base 3 1 u m ys' := by
  obtain ⟨hl, h | ⟨g, cap, cur, rfl, hb, hc, h1, h2, h3, h4⟩⟩ := hu
  · exact ⟨_, hl, .inl h⟩
  · by_cases he : v.ownBlock = some g
    · obtain ⟨-, h | ⟨g1, cap1, cur1, rfl, -, hc1, k1, k2, k3, -⟩⟩ := hv0
      · rw [h.1] at he; cases he
      · obtain ⟨-, h | ⟨g2, cap2, cur2, e2, -, hc2, j1, j2, j3, -⟩⟩ := hv
        · cases h.1
        · cases e2
          cases he
          rw [hc] at hc1
          cases hc1
          exact ⟨cur2.toList.take (m * 1), by simp; omega, .inr ⟨_, cap, cur2, rfl, hb, hc2, h1, h2, by omega, rfl⟩⟩
    · exact ⟨ys, hl, .inr ⟨g, cap, cur, rfl, hb, (hg.block g (Array.getElem?_eq_some_iff.1 hc).1 (fun e => he e.symm)).trans hc, h1, h2, h3, h4⟩⟩
set_option maxHeartbeats 2000000 in
/-- ratchetlaw0.Numbers: an own row is written over; it stays one. -/
theorem numbers27_any {v : Value} {n : Nat} {xs : List Value} {w : World} {base : Nat} (h : w.ownsRow base 3 1 v n xs) (hn : n ≤ 100000) (hb : base ≤ w.heap.size) :
    Calls Tryd.prog 15 #[v] w fun e w' => e = .returned (.tuple #[]) ∧ w.grownBy w' v.ownBlock ∧ ∃ ys, w'.ownsRow base 3 1 v n ys := by
  obtain ⟨i0, hi0, hz0, hz1, hz2⟩ := info_parts cloneI_info
  obtain ⟨a, c, rfl⟩ := own_form2 h
  have HO := Lib.hid h
  clear h
  go_enter Tryd.func15, Tryd.ntmps15
  go_wp2_with fail
  go_loopw [2] (fun i wr => ∃ (k : Nat) (ys : List Value), k ≤ n ∧ i = .int .i64 k ∧ wr.ownsRow base 3 1 (.slice a n c) n ys ∧ w.grownBy wr (Value.slice a n c).ownBlock) (fun i _ => n - (intOf i).toNat)
  case atStart => exact ⟨0, xs, Nat.zero_le _, rfl, HO.out, World.grownBy.refl _ _⟩
  case round =>
    obtain ⟨k, ys, hk, rfl, hown, hbel⟩ := hrel
    have HB := Lib.hid hbel
    have zb := hbel.size
    clear hbel
    rcases Nat.lt_or_ge k n with hlt | hge
    · have hlz : (k : Int) < (n : Int) := by omega
      obtain ⟨g, cap, e⟩ := own_some hown (by omega)
      cases e
      obtain ⟨hg, cur, bg, hc1, hc2⟩ := own_blk27 hown
      have kf := bg.frozen k
      have kc : wr.cell? ⟨g, k, none⟩ = some (cur[k]'(by omega)) := (bg.cell k).trans (Array.getElem?_eq_getElem _)
      have zg := bg.lt
      have O2 := Lib.hid (own_put27 (i := k) (u := .int .i64 (-99)) hown)
      have G2 : Hid (w.grownBy (wr.setCell ⟨g, k, none⟩ (.int .i64 (-99))) (Value.slice (some ⟨g, 0, none⟩) n c).ownBlock) := Lib.hid ⟨HB.out.os, HB.out.tape, HB.out.output, Nat.le_trans HB.out.size (KeepsWalks.setCell wr _ _).size, fun j hj hne => (Below.heap_setCell _ _ _ j (fun e => hne (by rw [e]; rfl))).trans (HB.out.block j hj hne)⟩
      generalize cur[k] = y at *
      clear hown bg hg
      go_wp2_with fail
      exact ⟨⟨k + 1, _, by omega, by go_num, O2.out, G2.out⟩, by simp [intOf]; omega⟩
    · have hlz : ¬ (k : Int) < (n : Int) := by omega
      have HO2 := Lib.hid hown
      clear hown
      go_wp2_with (at_builtin; refine (show Hid _ from ?_).out)
      refine Lib.hid ?_
      refine wpList_append_keeps rfl _ _ 24 rfl base 3 i0 (.int .i64 0) 8 Tryd.underlying24 hi0 hz0 hz1 hz2 rfl (.slice a n c) n ys rfl (own_old HO2.out ((Ext.refl wr).alloc (.cells #[.int .i64 5] 3))) ⟨wr.heap.size, 0, none⟩ 1 1 [.int .i64 5] rfl rfl (World.news_of_block (cs := #[.int .i64 5]) (t := 3) (fr := (0, 0)) (heap_alloc_new wr _)) (by simp [Value.oneCell']) (by unfold maxLen; omega) (by omega) (by simp; omega) ?_
      intro v' w1 hgrow hrow
      have X1 := Lib.hid ((HB.out.trans (World.grownBy_alloc wr _ _)).trans hgrow)
      have R1 := Lib.hid hrow
      clear hgrow hrow
      go_wp2_with fail
      (try rw [Exit.noGoto_ret])
      simp [bodyPost, results, Tryd.results15, go_sem]
      exact ⟨X1.out, R1.out⟩
set_option maxHeartbeats 2000000 in
theorem eqParam_any {xs : List Int} {sa sb : Option Addr} {n sc sd : Nat} {N : ByteArray} {fi fo : Int} {w : World} (h1 : Row .i64 w (.slice sa n sc) xs) (h2 : Row .i64 w (.slice sb n sd) xs) :
    Calls Tryd.prog 23 #[.agg #[.string N, .slice sa n sc, .int .i64 fi, .int .i64 fo], .agg #[.string N, .slice sb n sd, .int .i64 fi, .int .i64 fo]] w fun e w' => e = .returned (.bool true) ∧ Ext w w' := by
  have EQ := Lib.hid (fun u (x : Ext w u) => eqNumbers_any (h1.ext x) (h2.ext x))
  rw [decide_eq_true rfl] at EQ
  have ST : (N.toList == N.toList) = true := by simp
  clear h1 h2
  go_enter Tryd.func23, Tryd.ntmps23
  go_wp2_with (go_at_call 12; refine (EQ.out _ (by repeat (first | with_reducible exact Ext.refl _ | with_reducible apply Ext.drew | with_reducible apply Ext.drewN | with_reducible apply Ext.alloc | ((with_reducible refine Ext.setCell ?_ ?_ _); rotate_left; focus (first | (simp; done) | (simp; omega) | omega)) | with_reducible refine Ext.tr ?_ x1 | with_reducible refine Ext.tr ?_ x2 | with_reducible refine Ext.tr ?_ x3 | with_reducible refine Ext.tr ?_ x4 | with_reducible refine Ext.tr ?_ x5 | with_reducible refine Ext.tr ?_ x6 | with_reducible refine Ext.tr ?_ x7 | with_reducible refine Ext.tr ?_ x8 | with_reducible refine Ext.tr ?_ x9 | with_reducible refine Ext.tr ?_ xa | with_reducible refine Ext.tr ?_ xc | with_reducible refine Ext.tr ?_ hx | with_reducible refine Ext.tr ?_ hext | with_reducible assumption))).mono ?_; rintro e w' ⟨rfl, nq, rfl⟩; clear EQ)
  go_ret
  exact ⟨rfl, (by repeat (first | with_reducible exact Ext.refl _ | with_reducible apply Ext.drew | with_reducible apply Ext.drewN | with_reducible apply Ext.alloc | ((with_reducible refine Ext.setCell ?_ ?_ _); rotate_left; focus (first | (simp; done) | (simp; omega) | omega)) | with_reducible refine Ext.tr ?_ x1 | with_reducible refine Ext.tr ?_ x2 | with_reducible refine Ext.tr ?_ x3 | with_reducible refine Ext.tr ?_ x4 | with_reducible refine Ext.tr ?_ x5 | with_reducible refine Ext.tr ?_ x6 | with_reducible refine Ext.tr ?_ x7 | with_reducible refine Ext.tr ?_ x8 | with_reducible refine Ext.tr ?_ x9 | with_reducible refine Ext.tr ?_ xa | with_reducible refine Ext.tr ?_ xc | with_reducible refine Ext.tr ?_ hx | with_reducible refine Ext.tr ?_ hext | with_reducible assumption))⟩
set_option maxHeartbeats 4000000 in
set_option maxRecDepth 100000 in
theorem eqParams_any {base base' : Nat} {va vb : Value} {ps : List ParamP} {w : World} (h1 : ParsAt base w va ps) (h2 : ParsAt base' w vb ps) :
    Calls Tryd.prog 13 #[va, vb] w fun e w' => e = .returned (.bool true) ∧ Ext w w' := by
  have hmx := h1.max
  obtain ⟨a1, c1, rfl⟩ := h1.form
  obtain ⟨a2, c2, rfl⟩ := h2.form
  have H1 := Lib.hid h1
  have H2 := Lib.hid h2
  clear h1 h2
  go_enter Tryd.func13, Tryd.ntmps13
  go_wp2_with fail
  go_loopw [5] (fun i wr => ∃ k : Nat, k ≤ ps.length ∧ i = .int .i64 k ∧ Ext w wr) (fun i _ => ps.length - (intOf i).toNat)
  case atStart => exact ⟨0, Nat.zero_le _, rfl, Ext.refl _⟩
  case round =>
    obtain ⟨k, hk, rfl, hext⟩ := hrel
    rcases Nat.lt_or_ge k ps.length with hlt | hge
    · have hkz : (k : Int) < (ps.length : Int) := by omega
      have HX := Lib.hid hext
      obtain ⟨g, c, sa, sc, e1, n1, n2, n3, n4, n5⟩ := (H1.out.ext hext).at hlt
      obtain ⟨g', c', sb, sd, e2, m1, m2, m3, m4, m5⟩ := (H2.out.ext hext).at hlt
      cases e1
      cases e2
      have EP := Lib.hid (fun u (x : Ext wr u) => eqParam_any (N := ba ps[k].name) (fi := ps[k].inn) (fo := ps[k].out) ((Row.of_owns n5).1.ext x) ((Row.of_owns m5).1.ext x))
      obtain ⟨⟨pn0, psh, pi, po⟩, hq⟩ : ∃ p, ps[k] = p := ⟨_, rfl⟩
      rw [hq] at n1 n2 n3 n4 m1 m2 m3 m4 EP
      simp only at n1 n2 n3 n4 m1 m2 m3 m4 EP
      obtain ⟨NM, hNM⟩ : ∃ NM, ba pn0 = NM := ⟨_, rfl⟩
      obtain ⟨pn, hpn⟩ : ∃ pn, psh.length = pn := ⟨_, rfl⟩
      rw [hNM] at n1 m1 EP
      rw [hpn] at n2 m2 EP
      have z1 := cell_lt n1
      have z2 := cell_lt m1
      simp only at z1 z2
      have k0 : (0 : Int) ≤ (k : Int) := by omega
      clear hext n5 m5 hq hNM hpn
      go_wp2_with fail
      go_region_held3 (fun w' => w'.cell? ⟨g, k * 4, none⟩ = some (.string NM) ∧ w'.cell? ⟨g, k * 4 + 1, none⟩ = some (.slice sa pn sc) ∧ w'.cell? ⟨g, k * 4 + 2, none⟩ = some (.int .i64 pi) ∧ w'.cell? ⟨g, k * 4 + 3, none⟩ = some (.int .i64 po) ∧ w'.cell? ⟨g', k * 4, none⟩ = some (.string NM) ∧ w'.cell? ⟨g', k * 4 + 1, none⟩ = some (.slice sb pn sd) ∧ w'.cell? ⟨g', k * 4 + 2, none⟩ = some (.int .i64 pi) ∧ w'.cell? ⟨g', k * 4 + 3, none⟩ = some (.int .i64 po) ∧ g < w'.heap.size ∧ g' < w'.heap.size)
        (refine ⟨?_, ?_, ?_, ?_, ?_, ?_, ?_, ?_, ?_, ?_⟩ <;> first | (simp [go_sem, *]; done) | omega | (simp at z1; omega) | (simp at z2; omega) | (simp at z3; omega) | (simp at z4; omega) | exact (by repeat (first | with_reducible exact Ext.refl _ | with_reducible apply Ext.drew | with_reducible apply Ext.drewN | with_reducible apply Ext.alloc | ((with_reducible refine Ext.setCell ?_ ?_ _); rotate_left; focus (first | (simp; done) | (simp; omega) | omega)) | with_reducible refine Ext.tr ?_ x1 | with_reducible refine Ext.tr ?_ x2 | with_reducible refine Ext.tr ?_ x3 | with_reducible refine Ext.tr ?_ x4 | with_reducible refine Ext.tr ?_ x5 | with_reducible refine Ext.tr ?_ x6 | with_reducible refine Ext.tr ?_ x7 | with_reducible refine Ext.tr ?_ x8 | with_reducible refine Ext.tr ?_ x9 | with_reducible refine Ext.tr ?_ xa | with_reducible refine Ext.tr ?_ xc | with_reducible refine Ext.tr ?_ hx | with_reducible refine Ext.tr ?_ hext | with_reducible assumption)))
        ((go_at_call 23; refine (EP.out _ (by repeat (first | with_reducible exact Ext.refl _ | with_reducible apply Ext.drew | with_reducible apply Ext.drewN | with_reducible apply Ext.alloc | ((with_reducible refine Ext.setCell ?_ ?_ _); rotate_left; focus (first | (simp; done) | (simp; omega) | omega)) | with_reducible refine Ext.tr ?_ x1 | with_reducible refine Ext.tr ?_ x2 | with_reducible refine Ext.tr ?_ x3 | with_reducible refine Ext.tr ?_ x4 | with_reducible refine Ext.tr ?_ x5 | with_reducible refine Ext.tr ?_ x6 | with_reducible refine Ext.tr ?_ x7 | with_reducible refine Ext.tr ?_ x8 | with_reducible refine Ext.tr ?_ x9 | with_reducible refine Ext.tr ?_ xa | with_reducible refine Ext.tr ?_ xc | with_reducible refine Ext.tr ?_ hx | with_reducible refine Ext.tr ?_ hext | with_reducible assumption))).mono ?_; rintro e v3 ⟨rfl, x3⟩; clear EP; have y3 : Ext wr v3 := (by repeat (first | with_reducible exact Ext.refl _ | with_reducible apply Ext.drew | with_reducible apply Ext.drewN | with_reducible apply Ext.alloc | ((with_reducible refine Ext.setCell ?_ ?_ _); rotate_left; focus (first | (simp; done) | (simp; omega) | omega)) | with_reducible refine Ext.tr ?_ x1 | with_reducible refine Ext.tr ?_ x2 | with_reducible refine Ext.tr ?_ x3 | with_reducible refine Ext.tr ?_ x4 | with_reducible refine Ext.tr ?_ x5 | with_reducible refine Ext.tr ?_ x6 | with_reducible refine Ext.tr ?_ x7 | with_reducible refine Ext.tr ?_ x8 | with_reducible refine Ext.tr ?_ x9 | with_reducible refine Ext.tr ?_ xa | with_reducible refine Ext.tr ?_ xc | with_reducible refine Ext.tr ?_ hx | with_reducible refine Ext.tr ?_ hext | with_reducible assumption)); have p1 := y3.cell n1; have p2 := y3.cell n2; have p3 := y3.cell n3; have p4 := y3.cell n4; have q1 := y3.cell m1; have q2 := y3.cell m2; have q3 := y3.cell m3; have q4 := y3.cell m4; have zp := cell_lt p1; have zq := cell_lt q1; simp only at zp zq))
      all_goals
        go_wp2_with fail
        exact ⟨⟨k + 1, by omega, by go_num, HX.out.tr (by repeat (first | with_reducible exact Ext.refl _ | with_reducible apply Ext.drew | with_reducible apply Ext.drewN | with_reducible apply Ext.alloc | ((with_reducible refine Ext.setCell ?_ ?_ _); rotate_left; focus (first | (simp; done) | (simp; omega) | omega)) | with_reducible refine Ext.tr ?_ x1 | with_reducible refine Ext.tr ?_ x2 | with_reducible refine Ext.tr ?_ x3 | with_reducible refine Ext.tr ?_ x4 | with_reducible refine Ext.tr ?_ x5 | with_reducible refine Ext.tr ?_ x6 | with_reducible refine Ext.tr ?_ x7 | with_reducible refine Ext.tr ?_ x8 | with_reducible refine Ext.tr ?_ x9 | with_reducible refine Ext.tr ?_ xa | with_reducible refine Ext.tr ?_ xc | with_reducible refine Ext.tr ?_ hx | with_reducible refine Ext.tr ?_ hext | with_reducible assumption))⟩, by simp [intOf]; omega⟩
    · obtain rfl : k = ps.length := by omega
      have hkz : ¬ ((ps.length : Nat) : Int) < (ps.length : Int) := by omega
      go_wp2
      go_ret
      exact ⟨rfl, hext⟩
set_option maxHeartbeats 4000000 in
set_option maxRecDepth 100000 in
/-- What the page says of any definition. -/
theorem told27_any {A : Nat → Prop} {n : Nat} {w : World} {v : Value} {d : DefL} (h : DefAt A n w v d) (hcnt : countS d.layers ≤ 200) :
    Calls Tryd.prog 7 #[v] w fun e w' => InferP w.heap.size w e w' (toldS d) := by
  have MY := Lib.hid (fun u (x : Ext w u) => mayR_any (h.ext x) hcnt)
  obtain ⟨TT, hTT⟩ : ∃ T, toldS d = T := ⟨_, rfl⟩
  have HTT := Lib.hid hTT
  rw [hTT]
  cases hg : goodD d with
  | false =>
    rw [hg] at MY
    have E1 : TT = .bad 1 := by rw [← hTT]; unfold toldS; rw [if_pos hg]
    subst E1
    obtain ⟨a1, c1, a2, c2, rfl, -, -⟩ := h.is
    clear h hTT hg HTT
    go_enter Tryd.func7, Tryd.ntmps7
    go_wp2_with (go_at_call 19; refine (MY.out _ (by repeat (first | with_reducible exact Ext.refl _ | with_reducible apply Ext.drew | with_reducible apply Ext.drewN | with_reducible apply Ext.alloc | ((with_reducible refine Ext.setCell ?_ ?_ _); rotate_left; focus (first | (simp; done) | (simp; omega) | omega)) | with_reducible refine Ext.tr ?_ x1 | with_reducible refine Ext.tr ?_ x2 | with_reducible refine Ext.tr ?_ x3 | with_reducible refine Ext.tr ?_ x4 | with_reducible refine Ext.tr ?_ x5 | with_reducible refine Ext.tr ?_ x6 | with_reducible refine Ext.tr ?_ x7 | with_reducible refine Ext.tr ?_ x8 | with_reducible refine Ext.tr ?_ x9 | with_reducible refine Ext.tr ?_ xa | with_reducible refine Ext.tr ?_ xc | with_reducible refine Ext.tr ?_ hx | with_reducible refine Ext.tr ?_ hext | with_reducible assumption))).mono ?_; rintro e v1 ⟨rfl, x1⟩; clear MY)
    refine bodyPost_ret (v := .tuple #[.slice none 0 0, .slice none 0 0, .int .i64 1]) (by simp [results, Tryd.results7, go_sem, *]) rfl ⟨rfl, (by repeat (first | with_reducible exact Ext.refl _ | with_reducible apply Ext.drew | with_reducible apply Ext.drewN | with_reducible apply Ext.alloc | ((with_reducible refine Ext.setCell ?_ ?_ _); rotate_left; focus (first | (simp; done) | (simp; omega) | omega)) | with_reducible refine Ext.tr ?_ x1 | with_reducible refine Ext.tr ?_ x2 | with_reducible refine Ext.tr ?_ x3 | with_reducible refine Ext.tr ?_ x4 | with_reducible refine Ext.tr ?_ x5 | with_reducible refine Ext.tr ?_ x6 | with_reducible refine Ext.tr ?_ x7 | with_reducible refine Ext.tr ?_ x8 | with_reducible refine Ext.tr ?_ x9 | with_reducible refine Ext.tr ?_ xa | with_reducible refine Ext.tr ?_ xc | with_reducible refine Ext.tr ?_ hx | with_reducible refine Ext.tr ?_ hext | with_reducible assumption))⟩
  | true =>
    rw [hg] at MY
    have IN := Lib.hid (fun u (x : Ext w u) => rinfer_any (h.ext x) hg)
    rw [hTT] at IN
    obtain ⟨a1, c1, a2, c2, rfl, -, -⟩ := h.is
    clear h hTT hg HTT
    go_enter Tryd.func7, Tryd.ntmps7
    go_wp2_with fail
    refine (MY.out _ (by repeat (first | with_reducible exact Ext.refl _ | with_reducible apply Ext.drew | with_reducible apply Ext.drewN | with_reducible apply Ext.alloc | ((with_reducible refine Ext.setCell ?_ ?_ _); rotate_left; focus (first | (simp; done) | (simp; omega) | omega)) | with_reducible refine Ext.tr ?_ x1 | with_reducible refine Ext.tr ?_ x2 | with_reducible refine Ext.tr ?_ x3 | with_reducible refine Ext.tr ?_ x4 | with_reducible refine Ext.tr ?_ x5 | with_reducible refine Ext.tr ?_ x6 | with_reducible refine Ext.tr ?_ x7 | with_reducible refine Ext.tr ?_ x8 | with_reducible refine Ext.tr ?_ x9 | with_reducible refine Ext.tr ?_ xa | with_reducible refine Ext.tr ?_ xc | with_reducible refine Ext.tr ?_ hx | with_reducible refine Ext.tr ?_ hext | with_reducible assumption))).mono ?_
    rintro e v1 ⟨rfl, x1⟩
    obtain ⟨k0, k1, k2, zk⟩ := ((Blk.new w 27 #[.slice a1 d.input.length c1, .slice a2 d.layers.length c2, .int .i64 d.loss]).ext x1).three'
    have X1 : Ext w v1 := (by repeat (first | with_reducible exact Ext.refl _ | with_reducible apply Ext.drew | with_reducible apply Ext.drewN | with_reducible apply Ext.alloc | ((with_reducible refine Ext.setCell ?_ ?_ _); rotate_left; focus (first | (simp; done) | (simp; omega) | omega)) | with_reducible refine Ext.tr ?_ x1 | with_reducible refine Ext.tr ?_ x2 | with_reducible refine Ext.tr ?_ x3 | with_reducible refine Ext.tr ?_ x4 | with_reducible refine Ext.tr ?_ x5 | with_reducible refine Ext.tr ?_ x6 | with_reducible refine Ext.tr ?_ x7 | with_reducible refine Ext.tr ?_ x8 | with_reducible refine Ext.tr ?_ x9 | with_reducible refine Ext.tr ?_ xa | with_reducible refine Ext.tr ?_ xc | with_reducible refine Ext.tr ?_ hx | with_reducible refine Ext.tr ?_ hext | with_reducible assumption))
    have hzv := X1.size
    clear MY x1
    cases TT with
    | bad b =>
      go_wp2_with fail
      refine (IN.out _ X1).mono ?_
      rintro e v2 ⟨rfl, x2⟩
      go_wp2
      refine bodyPost_ret (v := .tuple #[.slice none 0 0, .slice none 0 0, .int .i64 b]) (by simp [results, Tryd.results7, go_sem, *]) rfl ⟨rfl, X1.tr x2⟩
    | ok x ps =>
      go_wp2_with fail
      refine (IN.out _ X1).mono ?_
      rintro e v2 ⟨xa, xc, pa, pc, rfl, x2, o2, p2⟩
      go_wp2
      refine bodyPost_ret (v := .tuple #[.slice xa x.length xc, .slice pa ps.length pc, .int .i64 0]) (by simp [results, Tryd.results7, go_sem, *]) rfl ⟨xa, xc, pa, pc, rfl, X1.tr x2, own_base o2 hzv, p2.base hzv⟩
end Go.Proofs.YtgokenbojppnhaaDoor
namespace Go.Proofs.YtgokenbojppnhaaDoor
open Go.RowKit
theorem judge_shp {f : LayF} {s o : List Int} {first : Bool} {nm : Bs} {ps : List ParamP} (h : judgeS f s first nm = .ok o ps) : ∀ p ∈ ps, shp p.shape = true := by
  unfold judgeS at h
  cases hd : doesS f s first nm with
  | none => rw [hd] at h; cases h
  | some q =>
    obtain ⟨o', ps'⟩ := q
    rw [hd] at h
    simp only at h
    split at h
    · rename_i h1
      cases h
      rw [Bool.and_eq_true, List.all_eq_true] at h1
      exact h1.2
    · cases h
mutual
theorem infer_shp : ∀ (l : Lay) {first : Bool} {nm : Bs} {s x : List Int} {ps : List ParamP}, l.infer first nm s = .ok x ps → ∀ p ∈ ps, shp p.shape = true
  | .mk f b, first, nm, s, x, ps, h => by
    by_cases h13 : f.kind = 13
    · rw [infer_body h13] at h
      cases hb : inferS false (nm ++ [46]) 0 s b with
      | bad e => rw [hb] at h; cases h
      | ok y qs =>
        rw [hb] at h
        simp only at h
        split at h
        · cases h
          exact inferS_shp b hb
        · cases h
    · rw [infer_plain h13] at h
      exact judge_shp h
theorem inferS_shp : ∀ (L : List Lay) {first : Bool} {ah : Bs} {k : Nat} {s x : List Int} {ps : List ParamP}, inferS first ah k s L = .ok x ps → ∀ p ∈ ps, shp p.shape = true
  | [], first, ah, k, s, x, ps, h, p, hp => by simp [inferS] at h; rw [h.2] at hp; cases hp
  | l :: ls, first, ah, k, s, x, ps, h, p, hp => by
    rw [inferS] at h
    cases hb : l.infer first (ah ++ Lib.itoa (k : Int)) s with
    | bad e => rw [hb] at h; cases h
    | ok y qs =>
      rw [hb] at h
      simp only at h
      cases hc : inferS false ah (k + 1) y ls with
      | bad e => rw [hc] at h; cases h
      | ok z rs =>
        rw [hc] at h
        cases h
        rcases List.mem_append.1 hp with hp | hp
        · exact infer_shp l hb p hp
        · exact inferS_shp ls hc p hp
end
/-- What is told: the shape, the parameters, the error (0: none). -/
def tX : Told → List Int
  | .bad _ => []
  | .ok x _ => x
def tP : Told → List ParamP
  | .bad _ => []
  | .ok _ ps => ps
def tE : Told → Int
  | .bad b => b
  | .ok _ _ => 0
theorem told_small (d : DefL) : (tX (toldS d)).length ≤ 4 ∧ ∀ p ∈ tP (toldS d), p.shape.length ≤ 4 := by
  unfold toldS
  split
  · exact ⟨by simp [tX], fun p hp => by cases hp⟩
  · rename_i hg
    have hg : goodD d = true := by simpa using hg
    split
    · exact ⟨by simp [tX], fun p hp => by cases hp⟩
    · rename_i hf
      have hf : fullS d.input = true := by simpa using hf
      cases hc : inferS true [] 0 d.input d.layers with
      | bad e => exact ⟨by simp [tX], fun p hp => by cases hp⟩
      | ok y qs =>
        simp only
        split
        · exact ⟨by simp [tX], fun p hp => by cases hp⟩
        · obtain ⟨l', hl⟩ := good_layers hg
          obtain ⟨h1, -⟩ := inferS_fc d.layers hl hf hc
          exact ⟨by have := (fullS_dims h1).1; simp only [tX]; omega, fun p hp => (shp_dims (inferS_shp d.layers hc p hp)).1.1⟩
theorem told_uni {A : Nat → Prop} {n : Nat} {w : World} {v : Value} {d : DefL} (h : DefAt A n w v d) (hcnt : countS d.layers ≤ 200) :
    Calls Tryd.prog 7 #[v] w fun e w' => ∃ xa xc pa pc, e = .returned (.tuple #[.slice xa (tX (toldS d)).length xc, .slice pa (tP (toldS d)).length pc, .int .i64 (tE (toldS d))]) ∧ Ext w w' ∧ w'.ownsRow w.heap.size 3 1 (.slice xa (tX (toldS d)).length xc) (tX (toldS d)).length ((tX (toldS d)).map (Value.int .i64)) ∧ ParsAt w.heap.size w' (.slice pa (tP (toldS d)).length pc) (tP (toldS d)) := by
  have H := told27_any h hcnt
  cases hT : toldS d with
  | bad b =>
    rw [hT] at H
    exact H.mono (fun e w' ⟨h1, h2⟩ => ⟨none, 0, none, 0, h1, h2, World.ownsRow_nil _ _ _ _, ParsAt.nil _ _⟩)
  | ok x ps =>
    rw [hT] at H
    exact H.mono (fun e w' ⟨xa, xc, pa, pc, h1, h2, h3, h4⟩ => ⟨xa, xc, pa, pc, h1, h2, h3, h4⟩)
theorem out_uni {A : Nat → Prop} {n : Nat} {w : World} {v : Value} {d : DefL} (h : DefAt A n w v d) :
    Calls Tryd.prog 9 #[v] w fun e w' => ∃ xa xc, e = .returned (.tuple #[.slice xa (tX (toldS d)).length xc, .int .i64 (tE (toldS d))]) ∧ Ext w w' ∧ w'.ownsRow w.heap.size 3 1 (.slice xa (tX (toldS d)).length xc) (tX (toldS d)).length ((tX (toldS d)).map (Value.int .i64)) := by
  have H := out_any h
  cases hT : toldS d with
  | bad b =>
    rw [hT] at H
    exact H.mono (fun e w' ⟨h1, h2⟩ => ⟨none, 0, h1, h2, World.ownsRow_nil _ _ _ _⟩)
  | ok x ps =>
    rw [hT] at H
    exact H.mono (fun e w' ⟨xa, xc, h1, h2, h3⟩ => ⟨xa, xc, h1, h2, h3⟩)
theorem params_uni {A : Nat → Prop} {n : Nat} {w : World} {v : Value} {d : DefL} (h : DefAt A n w v d) :
    Calls Tryd.prog 10 #[v] w fun e w' => ∃ pa pc, e = .returned (.tuple #[.slice pa (tP (toldS d)).length pc, .int .i64 (tE (toldS d))]) ∧ Ext w w' ∧ ParsAt w.heap.size w' (.slice pa (tP (toldS d)).length pc) (tP (toldS d)) := by
  have H := params_any h
  cases hT : toldS d with
  | bad b =>
    rw [hT] at H
    exact H.mono (fun e w' ⟨h1, h2⟩ => ⟨none, 0, h1, h2, ParsAt.nil _ _⟩)
  | ok x ps =>
    rw [hT] at H
    exact H.mono (fun e w' ⟨pa, pc, h1, h2, h3⟩ => ⟨pa, pc, h1, h2, h3⟩)
/-- Parameters whose shapes lie in own rows, of whatever numbers. -/
def ParsW (base : Nat) (w : World) (v : Value) (ps : List ParamP) : Prop :=
  ∃ qs : List (ParamP × Value), qs.map Prod.fst = ps ∧ w.ownsRow base 43 4 v ps.length (parCells qs) ∧ ∀ q ∈ qs, ∃ ys, w.ownsRow base 3 1 q.2 q.1.shape.length ys
theorem ParsAt.weak {base : Nat} {w : World} {v : Value} {ps : List ParamP} (h : ParsAt base w v ps) : ParsW base w v ps := by
  obtain ⟨qs, h1, h2, h3⟩ := h
  exact ⟨qs, h1, h2, fun q hq => ⟨_, h3 q hq⟩⟩
theorem ParsW.ext {base : Nat} {w w' : World} {v : Value} {ps : List ParamP} (h : ParsW base w v ps) (x : Ext w w') : ParsW base w' v ps := by
  obtain ⟨qs, h1, h2, h3⟩ := h
  exact ⟨qs, h1, own_old h2 x, fun q hq => (h3 q hq).imp fun ys h => own_old h x⟩
theorem own_apart {base : Nat} {w w' : World} {t e : TypeId} {size : Nat} {u v : Value} {m n : Nat} {xs ys : List Value} (hu : w.ownsRow base t size u m xs) (hv : w.ownsRow base e 1 v n ys) (ht : t ≠ e) (hg : w.grownBy w' v.ownBlock) : w'.ownsRow base t size u m xs := by
  obtain ⟨hl, h | ⟨g, cap, cur, rfl, hb, hc, h1, h2, h3, h4⟩⟩ := hu
  · exact ⟨hl, .inl h⟩
  · refine ⟨hl, .inr ⟨g, cap, cur, rfl, hb, (hg.block g (Array.getElem?_eq_some_iff.1 hc).1 (fun e2 => ?_)).trans hc, h1, h2, h3, h4⟩⟩
    obtain ⟨-, cs, fr, e3⟩ := own_type hv g e2.symm
    rw [hc] at e3
    cases e3
    exact ht rfl
theorem ParsW.at {base : Nat} {w : World} {v : Value} {ps : List ParamP} (h : ParsW base w v ps) {k : Nat} (hk : k < ps.length) : ∃ g c sv ys, v = .slice (some ⟨g, 0, none⟩) ps.length c ∧ w.cell? ⟨g, k * 4 + 1, none⟩ = some sv ∧ w.ownsRow base 3 1 sv ps[k].shape.length ys ∧
    ∀ w', w.grownBy w' sv.ownBlock → (∃ zs, w'.ownsRow base 3 1 sv ps[k].shape.length zs) → ParsW base w' v ps := by
  obtain ⟨qs, h0, h1, h2⟩ := h
  have hq : k < qs.length := by rw [← h0, List.length_map] at hk; exact hk
  obtain ⟨g, c, hv⟩ := own_some h1 (by omega)
  subst hv
  have e0 : ps[k] = qs[k].1 := by subst h0; simp
  obtain ⟨ys, hys⟩ := h2 qs[k] (List.getElem_mem hq)
  refine ⟨g, c, qs[k].2, ys, rfl, ?_, by rw [e0]; exact hys, fun w' hg hz => ⟨qs, h0, own_apart h1 hys (by decide) hg, fun q hq => ?_⟩⟩
  · rw [h1.cellAt (k * 4 + 1) (by omega), parCells_at qs k hq 1 (by omega)]
    rfl
  · obtain ⟨zs, hz⟩ := hz
    obtain ⟨us, hus⟩ := h2 q hq
    rw [e0] at hz
    exact own_alias hus hg hys hz
end Go.Proofs.YtgokenbojppnhaaDoor
namespace Go.Proofs.YtgokenbojppnhaaDoor
open Go.RowKit Go.WideShapes Go.ChangeShapes
theorem eqNum_ext {u v : Value} {xs : List Int} {w : World} (hx : Row .i64 w u xs) (hy : Row .i64 w v xs) : Calls Tryd.prog 12 #[u, v] w fun e w' => e = .returned (.bool true) ∧ Ext w w' := by
  have h := eqNumbers_any hx hy
  rw [decide_eq_true rfl] at h
  exact h.mono (fun e w' ⟨h1, n, h2⟩ => ⟨h1, by rw [h2]; exact (Ext.refl w).drewN n⟩)
set_option maxHeartbeats 100000000 in
set_option maxRecDepth 100000 in
theorem iexact_walk (b o len cap : Nat) (w : World) (_hl : len ≤ 9223372036854775807) (hT : DefsAtC w b o len) :
    Calls Tryd.prog 3 #[.slice (some ⟨b, o, none⟩) len cap] w fun e w' => e = .returned (.bool true) ∧ Ext w w' := by
  have HT := Lib.hid hT
  clear hT
  go_enter Tryd.func3, Tryd.ntmps3
  go_wp2_with fail
  go_loopw [3] (fun i wr => ∃ k : Nat, k ≤ len ∧ i = .int .i64 k ∧ Ext w wr) (fun i _ => len - (intOf i).toNat)
  case atStart => exact ⟨0, Nat.zero_le _, rfl, Ext.refl _⟩
  case round =>
    obtain ⟨k, hk, rfl, hext⟩ := hrel
    by_cases hlt : k < len ∧ k < 6
    · obtain ⟨h1, h2⟩ := hlt
      have h1z : (k : Int) < (len : Int) := by omega
      have h2z : (k : Int) < 6 := by omega
      obtain ⟨n, d, iv, lv, c0, c1, c2, -, D0⟩ := HT.out k h1
      obtain ⟨a1, cc1, a2, cc2, e, hi, hly⟩ := D0.is
      obtain ⟨rfl, rfl⟩ : iv = .slice a1 d.input.length cc1 ∧ lv = .slice a2 d.layers.length cc2 := by injection e with e; injection e with e; injection e with e1 e; injection e with e2 e; exact ⟨e1, e2⟩
      replace c0 := hext.cell c0
      replace c1 := hext.cell c1
      replace c2 := hext.cell c2
      have z0 := cell_lt c0
      simp only at z0
      have DA := Lib.hid (D0.ext hext)
      have HV := Lib.hid (heavy_any DA.out)
      have XWO := Lib.hid hext
      clear e hi hly D0 HT
      cases hh : heavyS d with
      | true =>
        rw [hh] at HV
        clear hh
        go_wp2_with fail
        refine (HV.out).mono ?_
        rintro e v1 ⟨rfl, x1⟩
        clear HV c0 c1 c2
        go_wp2
        go_ret
        exact ⟨rfl, hext.tr x1⟩
      | false =>
        as_aux_lemma =>
        rw [hh] at HV
        have hct := heavy_count hh
        obtain ⟨hs1, hs2⟩ := heavy_slim hh n
        have TO := Lib.hid (fun u (x : Ext wr u) => told_uni (DA.out.ext x) hct)
        have CD := Lib.hid (fun u (x : Ext wr u) => copyDef_any (DA.out.ext x) hs1 (by omega))
        obtain ⟨hX4, hP4⟩ := told_small d
        have OT := Lib.hid (fun (A : Nat → Prop) u v (h : DefAt A n u v d) => out_uni h)
        have PT := Lib.hid (fun (A : Nat → Prop) u v (h : DefAt A n u v d) => params_uni h)
        obtain ⟨X, hX⟩ : ∃ X, tX (toldS d) = X := ⟨_, rfl⟩
        obtain ⟨PS, hPS⟩ : ∃ X, tP (toldS d) = X := ⟨_, rfl⟩
        obtain ⟨E, hE⟩ : ∃ X, tE (toldS d) = X := ⟨_, rfl⟩
        rw [hX, hPS, hE] at TO
        rw [hX, hE] at OT
        rw [hPS, hE] at PT
        rw [hX] at hX4
        rw [hPS] at hP4
        have HP4 := Lib.hid hP4
        clear hh hs1 hs2 hct hX hPS hE hP4
        go_wp2_with fail
        refine (HV.out).mono ?_
        rintro e v1 ⟨rfl, x1⟩
        clear HV
        replace c0 := x1.cell c0
        replace c1 := x1.cell c1
        replace c2 := x1.cell c2
        have z1 := cell_lt c0
        simp only at z1
        have X1 := Lib.hid x1
        clear x1 z0
        go_wp2_with fail
        refine (TO.out _ X1.out).mono ?_
        rintro e v2 ⟨sa, sc, ra, rc, rfl, x2, o2, p2⟩
        clear TO
        dsimp only
        replace c0 := x2.cell c0
        replace c1 := x2.cell c1
        replace c2 := x2.cell c2
        have z2 := cell_lt c0
        simp only at z2
        have X2 := Lib.hid (X1.out.tr x2)
        have O2 := Lib.hid (Row.of_owns o2).1
        have P2 := Lib.hid p2
        clear X1 x2 z1 o2 p2
        go_wp2_with fail
        refine (CD.out _ X2.out).mono ?_
        rintro e v4 ⟨dv, rfl, x4, D4⟩
        clear CD
        dsimp only
        have X4 := Lib.hid (X2.out.tr x4)
        have O4 := Lib.hid (O2.out.ext x4)
        have P4 := Lib.hid (P2.out.ext x4)
        obtain ⟨a3, cc3, a4, cc4, rfl, -, -⟩ := D4.is
        obtain ⟨V4, hV4⟩ : ∃ V, V = v4.alloc (.cells #[.slice a3 d.input.length cc3, .slice a4 d.layers.length cc4, .int .i64 d.loss] 27) := ⟨_, rfl⟩
        have xV : Ext v4 V4 := by rw [hV4]; exact (Ext.refl v4).alloc _
        have bV : Blk V4 v4.heap.size 27 #[.slice a3 d.input.length cc3, .slice a4 d.layers.length cc4, .int .i64 d.loss] := by rw [hV4]; exact Blk.new _ _ _
        have DC := Lib.hid (D4.ext xV)
        have XV := Lib.hid (X4.out.tr xV)
        have OV := Lib.hid (O4.out.ext xV)
        have PV := Lib.hid (P4.out.ext xV)
        replace c0 := xV.cell (x4.cell c0)
        replace c1 := xV.cell (x4.cell c1)
        replace c2 := xV.cell (x4.cell c2)
        have z4 := cell_lt c0
        simp only at z4
        obtain ⟨g, hgg⟩ : ∃ g, v4.heap.size = g := ⟨_, rfl⟩
        have HV4 := Lib.hid hV4
        have d0 := c0
        have d1 := c1
        have d2 := c2
        clear D4 x4 X4 X2 O2 P2 O4 P4 z2 hV4
        go_wp2_with fail
        rw [← HV4.out]
        rw [hgg] at bV
        refine (OT.out _ _ _ DC.out).mono ?_
        rintro e v5 ⟨xa, xc, rfl, x5, o5⟩
        clear OT
        dsimp only
        replace c0 := x5.cell c0
        replace c1 := x5.cell c1
        replace c2 := x5.cell c2
        obtain ⟨k0, k1, k2, zk⟩ := (bV.ext x5).three'
        have z5 := cell_lt c0
        simp only at z5
        have X5 := Lib.hid x5
        have O5 := Lib.hid o5
        have BV := Lib.hid bV
        clear z4 o5 bV HV4 hgg
        go_wp2_with fail
        refine (PT.out _ _ _ (DC.out.ext x5)).mono ?_
        rintro e v6 ⟨pa, pc, rfl, x6, p6⟩
        clear PT x5
        dsimp only
        replace c0 := x6.cell c0
        replace c1 := x6.cell c1
        replace c2 := x6.cell c2
        replace k0 := x6.cell k0
        replace k1 := x6.cell k1
        replace k2 := x6.cell k2
        have z6 := cell_lt c0
        have zg6 := cell_lt k0
        simp only at z6 zg6
        have X6 := Lib.hid x6
        have P6 := Lib.hid p6
        have EN := Lib.hid (fun u (x : Ext v6 u) => eqNum_ext (((Row.of_owns O5.out).1.ext X6.out).ext x) (((OV.out.ext X5.out).ext X6.out).ext x))
        have EP := Lib.hid (fun u (x : Ext v6 u) => eqParams_any (P6.out.ext x) (((PV.out.ext X5.out).ext X6.out).ext x))
        have ED := Lib.hid (fun u (x : Ext v6 u) => eqDef_at (((DC.out.ext X5.out).ext X6.out).ext x) ((((DA.out.ext XV.out).ext X5.out).ext X6.out).ext x))
        have SE : (E != E) = false := by simp
        clear x6 p6 z5 zk OV PV
        go_wp2_with fail
        go_cut [82] from 52 to 82 (fun s82 wx => s82 = .bool false ∧ Ext v6 wx)
        case first => as_aux_lemma =>
          go_region_held3 (fun w' => w'.cell? ⟨g, 0, none⟩ = some (.slice a3 d.input.length cc3) ∧ w'.cell? ⟨g, 1, none⟩ = some (.slice a4 d.layers.length cc4) ∧ w'.cell? ⟨g, 2, none⟩ = some (.int .i64 d.loss) ∧ w'.cell? ⟨b, o + k * 3, none⟩ = some (.slice a1 d.input.length cc1) ∧ w'.cell? ⟨b, o + k * 3 + 1, none⟩ = some (.slice a2 d.layers.length cc2) ∧ w'.cell? ⟨b, o + k * 3 + 2, none⟩ = some (.int .i64 d.loss) ∧ b < w'.heap.size ∧ g < w'.heap.size)
            (refine ⟨?_, ?_, ?_, ?_, ?_, ?_, ?_, ?_⟩ <;> first | (simp [go_sem, *]; done) | omega | (simp at z1; omega) | (simp at z2; omega) | (simp at z3; omega) | (simp at z4; omega) | exact (by repeat (first | with_reducible exact Ext.refl _ | with_reducible apply Ext.drew | with_reducible apply Ext.drewN | with_reducible apply Ext.alloc | ((with_reducible refine Ext.setCell ?_ ?_ _); rotate_left; focus (first | (simp; done) | (simp; omega) | omega)) | with_reducible refine Ext.tr ?_ x1 | with_reducible refine Ext.tr ?_ x2 | with_reducible refine Ext.tr ?_ x3 | with_reducible refine Ext.tr ?_ x4 | with_reducible refine Ext.tr ?_ x5 | with_reducible refine Ext.tr ?_ x6 | with_reducible refine Ext.tr ?_ x7 | with_reducible refine Ext.tr ?_ x8 | with_reducible refine Ext.tr ?_ x9 | with_reducible refine Ext.tr ?_ xa | with_reducible refine Ext.tr ?_ xc | with_reducible refine Ext.tr ?_ hx | with_reducible refine Ext.tr ?_ hext | with_reducible assumption)))
            (first
              | (go_at_call 11; refine (num27_any _ _).mono ?_; rintro e w' ⟨rfl, rfl⟩)
              | ((go_at_call 12; refine (EN.out _ (by repeat (first | with_reducible exact Ext.refl _ | with_reducible apply Ext.drew | with_reducible apply Ext.drewN | with_reducible apply Ext.alloc | ((with_reducible refine Ext.setCell ?_ ?_ _); rotate_left; focus (first | (simp; done) | (simp; omega) | omega)) | with_reducible refine Ext.tr ?_ x1 | with_reducible refine Ext.tr ?_ x2 | with_reducible refine Ext.tr ?_ x3 | with_reducible refine Ext.tr ?_ x4 | with_reducible refine Ext.tr ?_ x5 | with_reducible refine Ext.tr ?_ x6 | with_reducible refine Ext.tr ?_ x7 | with_reducible refine Ext.tr ?_ x8 | with_reducible refine Ext.tr ?_ x9 | with_reducible refine Ext.tr ?_ xa | with_reducible refine Ext.tr ?_ xc | with_reducible refine Ext.tr ?_ hx | with_reducible refine Ext.tr ?_ hext | with_reducible assumption))).mono ?_; rintro e v7 ⟨rfl, x7⟩; clear EN; have y7 : Ext v6 v7 := (by repeat (first | with_reducible exact Ext.refl _ | with_reducible apply Ext.drew | with_reducible apply Ext.drewN | with_reducible apply Ext.alloc | ((with_reducible refine Ext.setCell ?_ ?_ _); rotate_left; focus (first | (simp; done) | (simp; omega) | omega)) | with_reducible refine Ext.tr ?_ x1 | with_reducible refine Ext.tr ?_ x2 | with_reducible refine Ext.tr ?_ x3 | with_reducible refine Ext.tr ?_ x4 | with_reducible refine Ext.tr ?_ x5 | with_reducible refine Ext.tr ?_ x6 | with_reducible refine Ext.tr ?_ x7 | with_reducible refine Ext.tr ?_ x8 | with_reducible refine Ext.tr ?_ x9 | with_reducible refine Ext.tr ?_ xa | with_reducible refine Ext.tr ?_ xc | with_reducible refine Ext.tr ?_ hx | with_reducible refine Ext.tr ?_ hext | with_reducible assumption)); have n70 := y7.cell k0; have n71 := y7.cell k1; have n72 := y7.cell k2; have m70 := y7.cell c0; have m71 := y7.cell c1; have m72 := y7.cell c2; have zm7 : b < v7.heap.size := cell_lt m70; have zn7 : g < v7.heap.size := cell_lt n70))
              | ((go_at_call 13; refine (EP.out _ (by repeat (first | with_reducible exact Ext.refl _ | with_reducible apply Ext.drew | with_reducible apply Ext.drewN | with_reducible apply Ext.alloc | ((with_reducible refine Ext.setCell ?_ ?_ _); rotate_left; focus (first | (simp; done) | (simp; omega) | omega)) | with_reducible refine Ext.tr ?_ x1 | with_reducible refine Ext.tr ?_ x2 | with_reducible refine Ext.tr ?_ x3 | with_reducible refine Ext.tr ?_ x4 | with_reducible refine Ext.tr ?_ x5 | with_reducible refine Ext.tr ?_ x6 | with_reducible refine Ext.tr ?_ x7 | with_reducible refine Ext.tr ?_ x8 | with_reducible refine Ext.tr ?_ x9 | with_reducible refine Ext.tr ?_ xa | with_reducible refine Ext.tr ?_ xc | with_reducible refine Ext.tr ?_ hx | with_reducible refine Ext.tr ?_ hext | with_reducible assumption))).mono ?_; rintro e v8 ⟨rfl, x8⟩; clear EP; have y8 : Ext v6 v8 := (by repeat (first | with_reducible exact Ext.refl _ | with_reducible apply Ext.drew | with_reducible apply Ext.drewN | with_reducible apply Ext.alloc | ((with_reducible refine Ext.setCell ?_ ?_ _); rotate_left; focus (first | (simp; done) | (simp; omega) | omega)) | with_reducible refine Ext.tr ?_ x1 | with_reducible refine Ext.tr ?_ x2 | with_reducible refine Ext.tr ?_ x3 | with_reducible refine Ext.tr ?_ x4 | with_reducible refine Ext.tr ?_ x5 | with_reducible refine Ext.tr ?_ x6 | with_reducible refine Ext.tr ?_ x7 | with_reducible refine Ext.tr ?_ x8 | with_reducible refine Ext.tr ?_ x9 | with_reducible refine Ext.tr ?_ xa | with_reducible refine Ext.tr ?_ xc | with_reducible refine Ext.tr ?_ hx | with_reducible refine Ext.tr ?_ hext | with_reducible assumption)); have n80 := y8.cell k0; have n81 := y8.cell k1; have n82 := y8.cell k2; have m80 := y8.cell c0; have m81 := y8.cell c1; have m82 := y8.cell c2; have zm8 : b < v8.heap.size := cell_lt m80; have zn8 : g < v8.heap.size := cell_lt n80))
              | ((go_at_call 14; refine (ED.out _ (by repeat (first | with_reducible exact Ext.refl _ | with_reducible apply Ext.drew | with_reducible apply Ext.drewN | with_reducible apply Ext.alloc | ((with_reducible refine Ext.setCell ?_ ?_ _); rotate_left; focus (first | (simp; done) | (simp; omega) | omega)) | with_reducible refine Ext.tr ?_ x1 | with_reducible refine Ext.tr ?_ x2 | with_reducible refine Ext.tr ?_ x3 | with_reducible refine Ext.tr ?_ x4 | with_reducible refine Ext.tr ?_ x5 | with_reducible refine Ext.tr ?_ x6 | with_reducible refine Ext.tr ?_ x7 | with_reducible refine Ext.tr ?_ x8 | with_reducible refine Ext.tr ?_ x9 | with_reducible refine Ext.tr ?_ xa | with_reducible refine Ext.tr ?_ xc | with_reducible refine Ext.tr ?_ hx | with_reducible refine Ext.tr ?_ hext | with_reducible assumption))).mono ?_; rintro e v9 ⟨rfl, x9⟩; clear ED; have y9 : Ext v6 v9 := (by repeat (first | with_reducible exact Ext.refl _ | with_reducible apply Ext.drew | with_reducible apply Ext.drewN | with_reducible apply Ext.alloc | ((with_reducible refine Ext.setCell ?_ ?_ _); rotate_left; focus (first | (simp; done) | (simp; omega) | omega)) | with_reducible refine Ext.tr ?_ x1 | with_reducible refine Ext.tr ?_ x2 | with_reducible refine Ext.tr ?_ x3 | with_reducible refine Ext.tr ?_ x4 | with_reducible refine Ext.tr ?_ x5 | with_reducible refine Ext.tr ?_ x6 | with_reducible refine Ext.tr ?_ x7 | with_reducible refine Ext.tr ?_ x8 | with_reducible refine Ext.tr ?_ x9 | with_reducible refine Ext.tr ?_ xa | with_reducible refine Ext.tr ?_ xc | with_reducible refine Ext.tr ?_ hx | with_reducible refine Ext.tr ?_ hext | with_reducible assumption)); have n90 := y9.cell k0; have n91 := y9.cell k1; have n92 := y9.cell k2; have m90 := y9.cell c0; have m91 := y9.cell c1; have m92 := y9.cell c2; have zm9 : b < v9.heap.size := cell_lt m90; have zn9 : g < v9.heap.size := cell_lt n90)))
          all_goals
            go_wp2_with fail
            go_meet
            exact ⟨rfl, (by repeat (first | with_reducible exact Ext.refl _ | with_reducible apply Ext.drew | with_reducible apply Ext.drewN | with_reducible apply Ext.alloc | ((with_reducible refine Ext.setCell ?_ ?_ _); rotate_left; focus (first | (simp; done) | (simp; omega) | omega)) | with_reducible refine Ext.tr ?_ x1 | with_reducible refine Ext.tr ?_ x2 | with_reducible refine Ext.tr ?_ x3 | with_reducible refine Ext.tr ?_ x4 | with_reducible refine Ext.tr ?_ x5 | with_reducible refine Ext.tr ?_ x6 | with_reducible refine Ext.tr ?_ x7 | with_reducible refine Ext.tr ?_ x8 | with_reducible refine Ext.tr ?_ x9 | with_reducible refine Ext.tr ?_ xa | with_reducible refine Ext.tr ?_ xc | with_reducible refine Ext.tr ?_ hx | with_reducible refine Ext.tr ?_ hext | with_reducible assumption))⟩
        case rest =>
          obtain ⟨rfl, x7⟩ := hcut
          clear EN EP ED SE c0 c1 c2 k0 k1 k2 z6 zg6
          have hmx := P6.out.max
          have PW0 := Lib.hid ((P6.out.weak).ext x7)
          have X57 := Lib.hid (X6.out.tr x7)
          clear x7
          go_wp2_with fail
          go_loopw [12] (fun i wx => ∃ m : Nat, m ≤ PS.length ∧ i = .int .i64 m ∧ Ext v5 wx ∧ ParsW v5.heap.size wx (.slice pa PS.length pc) PS) (fun i _ => PS.length - (intOf i).toNat)
          case atStart => exact ⟨0, Nat.zero_le _, rfl, X57.out, PW0.out⟩
          case round =>
            obtain ⟨m, hm, rfl, x8, hpw⟩ := hrel
            rcases Nat.lt_or_ge m PS.length with hlm | hgm
            · as_aux_lemma =>
              have hmz : (m : Int) < (PS.length : Int) := by omega
              obtain ⟨g', c', sv, ys, e1, n1, hown, hnext⟩ := hpw.at hlm
              cases e1
              obtain ⟨svp, svc, rfl⟩ := own_form2 hown
              have hsl := HP4.out _ (List.getElem_mem hlm)
              have zn := cell_lt n1
              simp only at zn
              have m0 : (0 : Int) ≤ (m : Int) := by omega
              have NU := Lib.hid (numbers27_any hown (by omega) x8.size)
              have HX8 := Lib.hid x8
              have HNX := Lib.hid hnext
              have hrow := Lib.hid (own_type hown)
              obtain ⟨sl, hsl2⟩ : ∃ sl, (PS[m]).shape.length = sl := ⟨_, rfl⟩
              rw [hsl2] at n1 NU HNX hrow
              clear hown hnext hsl hsl2 x8 hpw PW0
              go_wp2_with fail
              refine NU.out.mono ?_
              rintro e w' ⟨rfl, hg, hz⟩
              have X9 := Lib.hid (Ext.grown HX8.out hg (fun q hq => (hrow.out q hq).1))
              have P9 := Lib.hid (HNX.out _ hg hz)
              clear hg hz NU HNX hrow
              go_wp2_with fail
              exact ⟨⟨m + 1, by omega, by go_num, X9.out, P9.out⟩, by simp [intOf]; omega⟩
            · as_aux_lemma =>
              obtain rfl : m = PS.length := by omega
              have hmz : ¬ ((PS.length : Nat) : Int) < (PS.length : Int) := by omega
              have NU := Lib.hid (numbers27_any (own_old O5.out x8) (by omega) (Nat.le_trans X5.out.size x8.size))
              have X48 := Lib.hid (X5.out.tr x8)
              have hrow := Lib.hid (own_type (own_old O5.out x8))
              clear x8 hpw PW0 P6 O5
              go_wp2_with fail
              refine NU.out.mono ?_
              rintro e v9 ⟨rfl, hg, -⟩
              have X9 : Ext V4 v9 := Ext.grown X48.out hg (fun q hq => (hrow.out q hq).1)
              obtain ⟨k0, k1, k2, zk⟩ := (BV.out.ext X9).three'
              have XD := DA.out.ext (XV.out.tr X9)
              have ED := Lib.hid (fun u (x : Ext v9 u) => eqDef_at ((DC.out.ext X9).ext x) (XD.ext x))
              replace c0 := X9.cell d0
              replace c1 := X9.cell d1
              replace c2 := X9.cell d2
              have z9 := cell_lt c0
              simp only at z9
              have HX9 := Lib.hid (XWO.out.tr (XV.out.tr X9))
              clear X9 XD NU hg hrow X48 d0 d1 d2 DA DC
              go_wp2_with fail
              go_region_held3 (fun w' => w'.cell? ⟨g, 0, none⟩ = some (.slice a3 d.input.length cc3) ∧ w'.cell? ⟨g, 1, none⟩ = some (.slice a4 d.layers.length cc4) ∧ w'.cell? ⟨g, 2, none⟩ = some (.int .i64 d.loss) ∧ w'.cell? ⟨b, o + k * 3, none⟩ = some (.slice a1 d.input.length cc1) ∧ w'.cell? ⟨b, o + k * 3 + 1, none⟩ = some (.slice a2 d.layers.length cc2) ∧ w'.cell? ⟨b, o + k * 3 + 2, none⟩ = some (.int .i64 d.loss) ∧ b < w'.heap.size ∧ g < w'.heap.size)
                (refine ⟨?_, ?_, ?_, ?_, ?_, ?_, ?_, ?_⟩ <;> first | (simp [go_sem, *]; done) | omega | (simp at z1; omega) | (simp at z2; omega) | (simp at z3; omega) | (simp at z4; omega) | exact (by repeat (first | with_reducible exact Ext.refl _ | with_reducible apply Ext.drew | with_reducible apply Ext.drewN | with_reducible apply Ext.alloc | ((with_reducible refine Ext.setCell ?_ ?_ _); rotate_left; focus (first | (simp; done) | (simp; omega) | omega)) | with_reducible refine Ext.tr ?_ x1 | with_reducible refine Ext.tr ?_ x2 | with_reducible refine Ext.tr ?_ x3 | with_reducible refine Ext.tr ?_ x4 | with_reducible refine Ext.tr ?_ x5 | with_reducible refine Ext.tr ?_ x6 | with_reducible refine Ext.tr ?_ x7 | with_reducible refine Ext.tr ?_ x8 | with_reducible refine Ext.tr ?_ x9 | with_reducible refine Ext.tr ?_ xa | with_reducible refine Ext.tr ?_ xc | with_reducible refine Ext.tr ?_ hx | with_reducible refine Ext.tr ?_ hext | with_reducible assumption)))
                ((go_at_call 14; refine (ED.out _ (by repeat (first | with_reducible exact Ext.refl _ | with_reducible apply Ext.drew | with_reducible apply Ext.drewN | with_reducible apply Ext.alloc | ((with_reducible refine Ext.setCell ?_ ?_ _); rotate_left; focus (first | (simp; done) | (simp; omega) | omega)) | with_reducible refine Ext.tr ?_ x1 | with_reducible refine Ext.tr ?_ x2 | with_reducible refine Ext.tr ?_ x3 | with_reducible refine Ext.tr ?_ x4 | with_reducible refine Ext.tr ?_ x5 | with_reducible refine Ext.tr ?_ x6 | with_reducible refine Ext.tr ?_ x7 | with_reducible refine Ext.tr ?_ x8 | with_reducible refine Ext.tr ?_ x9 | with_reducible refine Ext.tr ?_ xa | with_reducible refine Ext.tr ?_ xc | with_reducible refine Ext.tr ?_ hx | with_reducible refine Ext.tr ?_ hext | with_reducible assumption))).mono ?_; rintro e v7 ⟨rfl, x7⟩; clear ED; have y7 : Ext v9 v7 := (by repeat (first | with_reducible exact Ext.refl _ | with_reducible apply Ext.drew | with_reducible apply Ext.drewN | with_reducible apply Ext.alloc | ((with_reducible refine Ext.setCell ?_ ?_ _); rotate_left; focus (first | (simp; done) | (simp; omega) | omega)) | with_reducible refine Ext.tr ?_ x1 | with_reducible refine Ext.tr ?_ x2 | with_reducible refine Ext.tr ?_ x3 | with_reducible refine Ext.tr ?_ x4 | with_reducible refine Ext.tr ?_ x5 | with_reducible refine Ext.tr ?_ x6 | with_reducible refine Ext.tr ?_ x7 | with_reducible refine Ext.tr ?_ x8 | with_reducible refine Ext.tr ?_ x9 | with_reducible refine Ext.tr ?_ xa | with_reducible refine Ext.tr ?_ xc | with_reducible refine Ext.tr ?_ hx | with_reducible refine Ext.tr ?_ hext | with_reducible assumption)); have n70 := y7.cell k0; have n71 := y7.cell k1; have n72 := y7.cell k2; have m70 := y7.cell c0; have m71 := y7.cell c1; have m72 := y7.cell c2; have zm7 : b < v7.heap.size := cell_lt m70; have zn7 : g < v7.heap.size := cell_lt n70))
              all_goals
                go_wp2_with fail
                exact ⟨⟨k + 1, by omega, by go_num, HX9.out.tr (by repeat (first | with_reducible exact Ext.refl _ | with_reducible apply Ext.drew | with_reducible apply Ext.drewN | with_reducible apply Ext.alloc | ((with_reducible refine Ext.setCell ?_ ?_ _); rotate_left; focus (first | (simp; done) | (simp; omega) | omega)) | with_reducible refine Ext.tr ?_ x1 | with_reducible refine Ext.tr ?_ x2 | with_reducible refine Ext.tr ?_ x3 | with_reducible refine Ext.tr ?_ x4 | with_reducible refine Ext.tr ?_ x5 | with_reducible refine Ext.tr ?_ x6 | with_reducible refine Ext.tr ?_ x7 | with_reducible refine Ext.tr ?_ x8 | with_reducible refine Ext.tr ?_ x9 | with_reducible refine Ext.tr ?_ xa | with_reducible refine Ext.tr ?_ xc | with_reducible refine Ext.tr ?_ hx | with_reducible refine Ext.tr ?_ hext | with_reducible assumption))⟩, by simp [intOf]; omega⟩
    · have hor : ¬ (k : Int) < (len : Int) ∨ ((k : Int) < (len : Int) ∧ ¬ (k : Int) < 6) := by omega
      rcases hor with h1z | ⟨h1z, h2z⟩
      all_goals
        clear HT
        go_wp2_with (go_at_call 16; refine (wakes27 _).mono ?_; rintro e w' ⟨rfl, x9⟩)
        go_ret
        exact ⟨rfl, hext.tr x9⟩
end Go.Proofs.YtgokenbojppnhaaDoor
namespace Go.Proofs.YtgokenbojppnhaaDoor
open Go.RowKit Go.WideShapes Go.ChangeShapes
set_option maxHeartbeats 100000000 in
set_option maxRecDepth 100000 in
theorem iexact_any {H : Type} {enc : TypeId × Value → H} {w : World} {base : Nat} {v : Value} {d : DataW H} {p : List MemPlace}
    (hv : Value.okWide Tryd.prog w .any base 22 v) (h : DataW.Trod enc Tryd.prog w 0 (fun _ => true) true 22 v d p) (_ : TabW w) :
    Calls Tryd.prog 3 #[v] w fun e w' => e = .returned (.bool true) ∧ Ext w w' := by
  rcases defsC_open hv h with ⟨a, cap, rfl⟩ | ⟨b, o, len, cap, rfl, h0, h1, hL⟩
  · clear hv h
    go_enter Tryd.func3, Tryd.ntmps3
    go_wp2_with fail
    go_loopw [3] (fun i wr => i = .int .i64 0 ∧ wr = w) (fun _ _ => 0)
    case atStart => exact ⟨rfl, rfl⟩
    case round =>
      obtain ⟨rfl, hwr⟩ := hrel
      subst hwr
      go_wp2_with (go_at_call 16; refine (wakes27 _).mono ?_; rintro e w' ⟨rfl, x9⟩)
      go_ret
      exact ⟨rfl, x9⟩
  · exact iexact_walk b o len cap w h1 hL
end Go.Proofs.YtgokenbojppnhaaDoor
