/- Both Parses by one post; definitions compared; what layer 26's laws share. -/
import Derived.Test.YtkdfenkpfffcaaaRefDef8
import Derived.Test.YtkdfenkpfffcaaaDefLaw0
import Derived.Test.YtkdfenkpfffcaaaEqLay
import Derived.Test.YtkdfenkpfffcaaaLayers0
namespace Go.Proofs.Ytkdfenkpfffcaaa
open Go.RowKit
def DefL.zero : DefL := ⟨[], [], 0⟩
theorem parseP_len {LL : List (List Bs)} {rest : Bs} {d : DefL} (h : (parseP LL rest).1 = some d) : d.input.length ≤ 3 := by
  unfold parseP at h
  cases h0 : LL[0]? with
  | none => rw [h0] at h; cases h
  | some W =>
    rw [h0] at h
    simp only at h
    split at h
    · cases h
    · rename_i hW
      cases h1 : dimsB W.tail with
      | none => rw [h1] at h; cases h
      | some ns =>
        rw [h1] at h
        simp only at h
        have hl : ns.length ≤ 3 := by
          have e := dims_all W.tail
          rw [h1] at e
          cases h2 : allB W.tail with
          | none => rw [h2] at e; cases e
          | some ms =>
            rw [h2] at e
            have hm := allB_len h2
            simp only at e
            split at e
            · cases e
              have : ¬ 4 < W.length := fun h => hW (.inr (.inl h))
              simp at hm
              omega
            · cases e
        obtain ⟨⟨ro, i', c'⟩, hp⟩ : ∃ p, bodyP LL (LL.length + 1) 0 1 64 [] = p := ⟨_, rfl⟩
        rw [hp] at h
        cases ro with
        | none => cases h
        | some L =>
          simp only at h
          split at h
          · cases h
          · split at h
            · cases h
            · split at h
              · cases h
              · split at h
                · cases h
                · cases h
                  simpa using hl
theorem parseS_len {b : Bs} {d : DefL} (h : (parseS b).1 = some d) : d.input.length ≤ 3 := by
  unfold parseS at h
  split at h
  · cases h
  · exact parseP_len h
/-- What both tell. -/
def ParseRes (w : World) (P : Option DefL × Nat) (e : Ending) (w' : World) : Prop :=
  ∃ dv, e = .returned (.tuple #[dv, .int .i64 (P.2 : Int), .int .i64 (if P.1.isSome then 0 else 1)]) ∧ Ext w w' ∧ DefNew w.heap.size w' dv (P.1.getD DefL.zero)
theorem ParsePost.res {w w' : World} {P : Option DefL × Nat} {e : Ending} (h : ParsePost w P e w') : ParseRes w P e w' := by
  obtain ⟨dv, h1, h2, h3, h4⟩ := h
  refine ⟨dv, h1, h2, ?_⟩
  cases hp : P.1 with
  | none => rw [h3 hp]; exact ⟨⟨_, _, rfl, World.ownsRow_nil _ _ _ _, MyLays.nil _ _ _⟩⟩
  | some d => exact h4 d hp
theorem parse_all {v : Value} {b : Bs} {w : World} (h : RowV w v (bytesV b)) : Calls Try.prog 8 #[v] w (ParseRes w (parseS b)) := by
  by_cases hb : b.length ≤ 8192
  · exact (parse_any h hb).mono fun e w' hp => ParsePost.res hp
  · have e : parseS b = (none, 0) := by unfold parseS; rw [if_pos (by omega)]
    refine (parse_big h (by omega)).mono fun e' w' hp => ?_
    obtain ⟨rfl, x⟩ := hp
    rw [e]
    exact ParsePost.res (ParsePost.bad (n := 0) x)
theorem parseRef_big {v : Value} {b : Bs} {w : World} (h : RowV w v (bytesV b)) (hb : 8192 < b.length) :
    Calls Try.prog 9 #[v] w fun e w' => e = .returned (.tuple #[zeroDef, .int .i64 0, .int .i64 1]) ∧ Ext w w' := by
  obtain ⟨a, cap, rfl, -, -, -⟩ := h
  have hl : (bytesV b).length = b.length := by simp [bytesV]
  rw [hl]
  have hz : (8192 : Int) < (b.length : Int) := by omega
  clear hl
  go_enter Try.func9, Try.ntmps9
  go_wp2_with fail
  (try rw [Exit.noGoto_ret])
  change bodyPost _ _ _ _ _ _
  simp [bodyPost, results, Try.results9, go_sem, zeroDef]
  exact (by repeat (first | with_reducible exact Ext.refl _ | with_reducible apply Ext.drew | with_reducible apply Ext.drewN | with_reducible apply Ext.alloc | ((with_reducible refine Ext.setCell ?_ ?_ _); rotate_left; focus (first | (simp; done) | (simp; omega) | omega)) | with_reducible refine Ext.tr ?_ x1 | with_reducible refine Ext.tr ?_ x2 | with_reducible assumption))
theorem parseRef_all {v : Value} {b : Bs} {w : World} (h : RowV w v (bytesV b)) : Calls Try.prog 9 #[v] w (ParseRes w (parseS b)) := by
  by_cases hb : b.length ≤ 8192
  · exact (parseRef_small h hb).mono fun e w' hp => ParsePost.res hp
  · have e : parseS b = (none, 0) := by unfold parseS; rw [if_pos (by omega)]
    refine (parseRef_big h (by omega)).mono fun e' w' hp => ?_
    obtain ⟨rfl, x⟩ := hp
    rw [e]
    exact ParsePost.res (ParsePost.bad (n := 0) x)
theorem RowV.ints {w : World} {v : Value} {l : List Int} (h : RowV w v (l.map (Value.int .i64))) : Row .i64 w v l := by
  obtain ⟨a, cap, rfl, h1, h2, h3⟩ := h
  have e : (l.map (Value.int .i64)).length = l.length := by simp
  rw [e] at h1 h3 ⊢
  refine ⟨a, cap, rfl, h1, h2, fun hn => ?_⟩
  obtain ⟨g, o, rfl, hc⟩ := h3 (by intro h; apply hn; exact List.map_eq_nil_iff.1 h)
  refine ⟨g, o, rfl, fun i hi => ?_⟩
  rw [hc i hi, List.getElem?_map, List.getD_eq_getElem?_getD, List.getElem?_eq_getElem hi]
  rfl
theorem num26_any (x : Int) (w : World) : Calls Try.prog 10 #[.int .i64 x] w fun e w' => e = .returned (.int .i64 x) ∧ w = w' := by
  go_enter Try.func10, Try.ntmps10
  go_wp2
  go_ret
  exact ⟨rfl, rfl⟩
theorem DefNew.ext {base : Nat} {w w' : World} {v : Value} {d : DefL} (h : DefNew base w v d) (x : Ext w w') : DefNew base w' v d := by
  obtain ⟨iv, lv, rfl, h1, h2⟩ := h.is
  exact ⟨⟨iv, lv, rfl, own_old h1 x, (h2.ext x).mono (fun b hb => ⟨hb.1, Nat.lt_of_lt_of_le hb.2 x.size⟩)⟩⟩
set_option maxHeartbeats 2000000 in
theorem eqDef_same {b1 b2 : Nat} {w : World} {u v : Value} {d : DefL} (h1 : DefNew b1 w u d) (h2 : DefNew b2 w v d) :
    Calls Try.prog 11 #[u, v] w fun e w' => e = .returned (.bool true) ∧ Ext w w' := by
  obtain ⟨i1, l1, rfl, o1, m1⟩ := h1.is
  obtain ⟨i2, l2, rfl, o2, m2⟩ := h2.is
  have EN := Lib.hid (fun w' (x : Ext w w') => eqNumbers_any (RowV.of_owns (own_old o1 x)).ints (RowV.of_owns (own_old o2 x)).ints)
  rw [decide_eq_true rfl] at EN
  have EL := Lib.hid (fun w' (x : Ext w w') => eqLayers_any 5 _ _ _ _ _ _ (m1.ext x).1 (m2.ext x).1)
  obtain ⟨a1, c1, rfl⟩ := own_form0 o1
  obtain ⟨a2, c2, rfl⟩ := own_form0 o2
  obtain ⟨a3, c3, rfl⟩ := m1.form
  obtain ⟨a4, c4, rfl⟩ := m2.form
  clear h1 h2 o1 o2 m1 m2
  go_enter Try.func11, Try.ntmps11
  go_wp2_with fail
  refine (EN.out _ (by repeat (first | with_reducible exact Ext.refl _ | with_reducible apply Ext.drew | with_reducible apply Ext.drewN | with_reducible apply Ext.alloc | ((with_reducible refine Ext.setCell ?_ ?_ _); rotate_left; focus (first | (simp; done) | (simp; omega) | omega)) | with_reducible refine Ext.tr ?_ x1 | with_reducible refine Ext.tr ?_ x2 | with_reducible assumption))).mono ?_
  rintro e w1 ⟨rfl, n1, hw1⟩
  have x1 : Ext w w1 := by rw [hw1]; exact (by repeat (first | with_reducible exact Ext.refl _ | with_reducible apply Ext.drew | with_reducible apply Ext.drewN | with_reducible apply Ext.alloc | ((with_reducible refine Ext.setCell ?_ ?_ _); rotate_left; focus (first | (simp; done) | (simp; omega) | omega)) | with_reducible refine Ext.tr ?_ x1 | with_reducible refine Ext.tr ?_ x2 | with_reducible assumption))
  have B1 := Lib.hid (show Blk w1 w.heap.size 28 #[.slice a1 d.input.length c1, .slice a3 d.layers.length c3, .int .i64 d.loss] by rw [hw1]; exact ((Blk.new w _ _).alloc _).drewN _)
  have B2 := Lib.hid (show Blk w1 (w.heap.size + 1) 28 #[.slice a2 d.input.length c2, .slice a4 d.layers.length c4, .int .i64 d.loss] by
    rw [hw1]
    have h1 := Blk.new (w.alloc (.cells #[.slice a1 d.input.length c1, .slice a3 d.layers.length c3, .int .i64 d.loss] 28)) 28 #[.slice a2 d.input.length c2, .slice a4 d.layers.length c4, .int .i64 d.loss]
    rw [World.size_alloc] at h1
    exact h1.drewN _)
  obtain ⟨k0, k1, k2, q0, q1, q2, zk⟩ := B1.out.three
  obtain ⟨r0, r1, r2, s0, s1, s2, zr⟩ := B2.out.three
  clear EN hw1
  go_wp2_with fail
  refine (EL.out _ x1).mono ?_
  rintro e w2 ⟨rfl, x2⟩
  replace k2 := x2.cell k2
  replace r2 := x2.cell r2
  have zz := x2.size
  have E : (d.loss == d.loss) = true := by simp
  clear EL k0 k1 q0 q1 q2 r0 r1 s0 s1 s2 B1 B2
  go_wp2_with fail
  go_ret
  exact ⟨rfl, x1.tr x2⟩
theorem OwnL.off {A : Nat → Prop} {w w' : World} {row : Option Nat} (hg : w.grownBy w' row) (hr : ∀ r, row = some r → ∃ c, w.heap[r]? = some (.cells c 3 (0, 0))) : ∀ {n : Nat} {v : Value}, OwnL A w n v → OwnL A w' n v
  | 0, _, h => h
  | n + 1, _, .inl h => .inl h
  | n + 1, _, .inr h => by
    obtain ⟨g, len, cap, cur, rfl, h1, h2, h3, h4, h5, h5', h6⟩ := h
    refine .inr ⟨g, len, cap, cur, rfl, h1, (hg.block g h2.lt (fun e => ?_)).trans h2, h3, h4, h5, h5', fun i hi => ?_⟩
    · obtain ⟨c, hc⟩ := hr g e.symm
      unfold Blk at h2
      rw [hc] at h2
      cases h2
    · obtain ⟨a, bv, b, c⟩ := h6 i hi
      exact ⟨a, bv, b, c.off hg hr⟩
end Go.Proofs.Ytkdfenkpfffcaaa
