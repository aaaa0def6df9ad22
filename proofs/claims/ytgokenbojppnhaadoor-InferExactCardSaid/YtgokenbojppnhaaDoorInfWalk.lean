/- infer.walk. -/
import Derived.Test.YtgokenbojppnhaaDoorInfGood
import Derived.Test.YtgokenbojppnhaaDoorStoreRow
import Derived.Test.YtgokenbojppnhaaDoorInfJudge
import Derived.Laws.Tables
import Derived.Deep.RegionHeld3
import Derived.Test.YtgokenbojppnhaaDoorDefGood
import Derived.Test.YtgokenbojppnhaaDoorDefMay
import Derived.Test.YtgokenbojppnhaaDoorShelf
namespace Go.Proofs.YtgokenbojppnhaaDoor
open Go.RowKit Go.Shelf
attribute [local go_sem] Oper.semAt_some
theorem sixteen {w : World} {S : Nat} {f : LayF} {bv iv ov pv : Value} {first fin : Bool} {nm : ByteArray} {bad : Int} (h : Blk w S 71 (stepA f bv iv ov pv first nm bad fin)) : w.cell? ⟨S, 0, none⟩ = some (.int .i64 f.kind) ∧ w.cell? ⟨S, 1, none⟩ = some (.int .i64 f.inn) ∧ w.cell? ⟨S, 2, none⟩ = some (.int .i64 f.out) ∧ w.cell? ⟨S, 3, none⟩ = some (.int .i64 f.size) ∧ w.cell? ⟨S, 4, none⟩ = some (.int .i64 f.stride) ∧ w.cell? ⟨S, 5, none⟩ = some (.int .i64 f.pad) ∧ w.cell? ⟨S, 6, none⟩ = some (.int .i64 f.percent) ∧ w.cell? ⟨S, 7, none⟩ = some (.int .i64 f.heads) ∧ w.cell? ⟨S, 8, none⟩ = some (bv) ∧ w.cell? ⟨S, 9, none⟩ = some (iv) ∧ w.cell? ⟨S, 10, none⟩ = some (ov) ∧ w.cell? ⟨S, 11, none⟩ = some (pv) ∧ w.cell? ⟨S, 12, none⟩ = some (.bool first) ∧ w.cell? ⟨S, 13, none⟩ = some (.string nm) ∧ w.cell? ⟨S, 14, none⟩ = some (.int .i64 bad) ∧ w.cell? ⟨S, 15, none⟩ = some (.bool fin) := ⟨h.cells 0 rfl, h.cells 1 rfl, h.cells 2 rfl, h.cells 3 rfl, h.cells 4 rfl, h.cells 5 rfl, h.cells 6 rfl, h.cells 7 rfl, h.cells 8 rfl, h.cells 9 rfl, h.cells 10 rfl, h.cells 11 rfl, h.cells 12 rfl, h.cells 13 rfl, h.cells 14 rfl, h.cells 15 rfl⟩
theorem step_built (K I O Z T P C H : Int) (ab xa : Option Addr) (nb cb xn xc : Nat) (fb : Bool) (NM : ByteArray) : Tryd.prog.built 71 [(0, .agg #[.int .i64 K, .int .i64 I, .int .i64 O, .int .i64 Z, .int .i64 T, .int .i64 P, .int .i64 C, .int .i64 H, .slice ab nb cb]), (1, .slice xa xn xc), (4, .bool fb), (5, .string NM)] = some #[.int .i64 K, .int .i64 I, .int .i64 O, .int .i64 Z, .int .i64 T, .int .i64 P, .int .i64 C, .int .i64 H, .slice ab nb cb, .slice xa xn xc, .slice none 0 0, .slice none 0 0, .bool fb, .string NM, .int .i64 0, .bool false] := by kernel_rfl
theorem step_alloc (u : World) : (Instr.alloc 71 true (.tuple #[])).run Tryd.prog u = .ok (.pointer (some ⟨u.heap.size, 0, none⟩)) (u.alloc (.cells #[.int .i64 0, .int .i64 0, .int .i64 0, .int .i64 0, .int .i64 0, .int .i64 0, .int .i64 0, .int .i64 0, .slice none 0 0, .slice none 0 0, .slice none 0 0, .slice none 0 0, .bool false, .string ⟨#[]⟩, .int .i64 0, .bool false] 71)) := by
  simp [go_sem]
def WalkOk (n : Nat) : Prop := ∀ (A : Nat → Prop) (B l d : Nat) (J Jx : List EvV → World → Prop) (v : Value) (L : List Lay) (deep lf l' : Nat) (ahead : Bs) (first : Bool) (ia : Option Addr) (ic : Nat) (s : List Int) (p0 : List EvV) (W : World),
  LaysAt A W n v L → (∀ b, A b → b < B) → goodS deep lf L = some l' → lf ≤ 64 → deep ≤ 4 → ahead.length ≤ 10 * deep → fullS s = true → RowS B W (.slice ia s.length ic) s → B ≤ W.heap.size → (parsOf p0).length + 4 * lf ≤ 1000 →
  Stays (KI B) J → Stays (KI B) Jx → YieldG Fence.wide d Tryd.prog l encEv (KC B) (AtEv B) goEv PreEv J Jx → J p0 W →
  Calls Tryd.prog 47 #[v, .string (ba ahead), .bool first, .slice ia s.length ic, .func (.yield l) #[] #[]] W fun e W' =>
    (∃ x ps xa xc xs, inferS first ahead 0 s L = .ok x ps ∧ e = .returned (.tuple #[.slice xa x.length xc, .bool true]) ∧ J (p0 ++ xs) W' ∧ KC B W W' ∧ RowS B W' (.slice xa x.length xc) x ∧ fullS x = true ∧ EvOk s x ps xs ∧ (parsOf (p0 ++ xs)).length + 4 * l' ≤ 1000) ∨
    (∃ b xs, b ≠ 0 ∧ inferS first ahead 0 s L = .bad b ∧ e = .returned (.tuple #[.slice none 0 0, .bool false]) ∧ Jx (p0 ++ xs) W' ∧ ∃ y ys, xs = ys ++ [y] ∧ y.ev.bad = b)
set_option maxHeartbeats 8000000 in
set_option maxRecDepth 100000 in
theorem walk_step (n : Nat) (IH : ∀ m, n = m + 1 → WalkOk m) : WalkOk n := by
  intro A B l d J Jx v L deep lf l' ahead first ia ic s p0 W hL hA hG hlf hdp hah hfu hR hB hp0 hJ hJx hY hj0
  obtain ⟨a1, c1, rfl⟩ := hL.form
  have HLY := Lib.hid hL
  have HAB := Lib.hid hA
  have HG := Lib.hid hG
  have HRS := Lib.hid hR
  have HSJ := Lib.hid hJ
  have HSX := Lib.hid hJx
  have HY := Lib.hid hY
  have HJ0 := Lib.hid hj0
  have HP0 := Lib.hid hp0
  have HFU := Lib.hid hfu
  have hm : L.length ≤ 9223372036854775807 := by
    cases n with
    | zero => rw [hL.1]; simp
    | succ n => obtain ⟨_, _, _, h, _⟩ := hL; unfold maxLen at h; omega
  obtain ⟨AH, hAH⟩ : ∃ AH, ba ahead = AH := ⟨_, rfl⟩
  rw [hAH]
  have HAH := Lib.hid hAH
  have sAH : AH.size = ahead.length := by rw [← hAH]; exact ba_size ahead
  clear hL hA hG hR hJ hJx hY hj0 hp0 hfu hAH
  refine (callsIn_wide (n := d + 1)).1 ?_
  refine callsIn_of_wp Tryd.func47 rfl trivial ?_ rfl
  simp only [Tryd.ntmps47, List.size_toArray, List.length_cons, List.length_nil, Nat.reduceAdd, Nat.reduceSub, Array.replicate_succ, Array.replicate_zero, List.push_toArray, List.append_toArray, List.nil_append, List.cons_append]
  gi_wp2
  gi_loopw [3, 19] (fun sv i wr => ∃ (k lf' : Nat) (x : List Int) (ps : List ParamP) (xa : Option Addr) (xc : Nat) (xs : List EvV), k ≤ L.length ∧ i = .int .i64 k ∧ sv = .slice xa x.length xc ∧ inferS first ahead 0 s (L.take k) = .ok x ps ∧ EvOk s x ps xs ∧ J (p0 ++ xs) wr ∧ KC B W wr ∧ RowS B wr (.slice xa x.length xc) x ∧ fullS x = true ∧ goodS deep lf' (L.drop k) = some l' ∧ lf' ≤ 64 ∧ (parsOf (p0 ++ xs)).length + 4 * lf' ≤ 1000 ∧ B ≤ wr.heap.size) (fun _ i _ => L.length - (intOf i).toNat)
  case atStart => exact ⟨0, lf, s, [], ia, ic, [], Nat.zero_le _, rfl, rfl, by simp [inferS], EvOk.nil _, by simpa using HJ0.out, KC.refl _ _, HRS.out, HFU.out, by simpa using HG.out, hlf, by simpa using HP0.out, hB⟩
  case round =>
    clear HJ0 HRS HFU HP0
    obtain ⟨k, lf', x, ps, xa, xc, xs, hk, rfl, rfl, hinf, hev, hj, hkc, hrow, hfull, hgk, hlf', hpar, hBr⟩ := hrel
    have HIN := Lib.hid hinf
    have HEV := Lib.hid hev
    have HJ := Lib.hid hj
    have HKC := Lib.hid hkc
    have HROW := Lib.hid hrow
    have HFX := Lib.hid hfull
    have HGK := Lib.hid hgk
    have HPAR := Lib.hid hpar
    rcases Nat.lt_or_ge k L.length with hlt | hge
    · have hkz : (k : Int) < (L.length : Int) := by omega
      cases n with
      | zero => rw [HLY.out.1] at hlt; exact absurd hlt (Nat.not_lt_zero _)
      | succ n =>
        obtain ⟨_, _, e1, -, q1⟩ := HLY.out.kc hkc HAB.out
        cases e1
        obtain ⟨b, o, rfl, hb, r1⟩ := q1 (by intro e; rw [e] at hlt; simp at hlt)
        obtain ⟨bv, -, t1, s1⟩ := r1 k hlt
        obtain ⟨y0, y1, y2, y3, y4, y5, y6, y7, y8⟩ := nine t1
        have zb := cell_lt y0
        simp only at zb
        have DR := Lib.hid (List.drop_eq_getElem_cons hlt)
        have S1 := Lib.hid s1
        obtain ⟨f, hf⟩ : ∃ f, L[k].f = f := ⟨_, rfl⟩
        obtain ⟨bd, hbd⟩ : ∃ bd, L[k].b = bd := ⟨_, rfl⟩
        have EL := Lib.hid (show L[k] = .mk f bd by rw [← hf, ← hbd]; cases L[k]; rfl)
        rw [hf] at y0 y1 y2 y3 y4 y5 y6 y7
        rw [hbd] at S1
        obtain ⟨ab, cb, rfl⟩ := S1.out.form
        have hk64 : k < 100 := by
          have h := HG.out
          rw [goods_count] at h
          split at h
          · rename_i h2
            have := count_len L
            omega
          · cases h
        obtain ⟨NM, hNM⟩ : ∃ NM, ba (ahead ++ Lib.itoa (k : Int)) = NM := ⟨_, rfl⟩
        have IT := Lib.hid (fun (X : World) => Tryd.strconv_Itoa_small k hk64 X)
        have DL : (Lib.decDigits k).length ≤ 2 := dec_len 1 k (by omega)
        have ADD := add_ba (A := AH) (B := ⟨(Lib.decDigits k).toArray⟩) (C := NM) (by rw [← HAH.out, ← hNM, ← ba_app, itoa_nat]; rfl) (by rw [sAH]; show ahead.length + (Lib.decDigits k).toArray.size ≤ _; simp; omega)
        obtain ⟨DG, hDG⟩ : ∃ DG : ByteArray, (⟨(Lib.decDigits k).toArray⟩ : ByteArray) = DG := ⟨_, rfl⟩
        rw [hDG] at IT ADD
        have HNM := Lib.hid hNM
        obtain ⟨K, I, O, Z, T, P, C, H⟩ := f
        simp only at y0 y1 y2 y3 y4 y5 y6 y7
        obtain ⟨nb, hnb⟩ : ∃ nb, bd.length = nb := ⟨_, rfl⟩
        rw [hnb] at y8
        have HNB := Lib.hid hnb
        clear hinf hev hj hkc hrow hfull hgk hpar t1 s1 q1 r1 hf hbd hNM hnb sAH DL hDG
        gi_wp2
        refine wpIn_wide.2 ?_
        obtain ⟨z0, hz0⟩ : ∃ z0, decide (k = 0) = z0 := ⟨_, rfl⟩
        have Z0 : ((k : Int) == 0) = z0 := by rw [← hz0]; by_cases h : k = 0 <;> simp [h]
        have HZ0 := Lib.hid hz0
        clear hz0
        go_cut [14] (fun s14 X => ∃ S, s14 = .pointer (some ⟨S, 0, none⟩) ∧ Blk X S 71 (stepA ⟨K, I, O, Z, T, P, C, H⟩ (.slice ab nb cb) (.slice xa x.length xc) (.slice none 0 0) (.slice none 0 0) (first && z0) NM 0 false) ∧ Blk X wr.heap.size 52 #[.int .i64 K, .int .i64 I, .int .i64 O, .int .i64 Z, .int .i64 T, .int .i64 P, .int .i64 C, .int .i64 H, .slice ab nb cb] ∧ Ext wr X ∧ wr.heap.size < S)
        case first => as_aux_lemma =>
          have BL := Blk.new wr 52 #[.int .i64 K, .int .i64 I, .int .i64 O, .int .i64 Z, .int .i64 T, .int .i64 P, .int .i64 C, .int .i64 H, .slice ab nb cb]
          have XW1 : Ext wr (wr.alloc (.cells #[.int .i64 K, .int .i64 I, .int .i64 O, .int .i64 Z, .int .i64 T, .int .i64 P, .int .i64 C, .int .i64 H, .slice ab nb cb] 52)) := (by repeat (first | with_reducible exact Ext.refl _ | with_reducible apply Ext.drew | with_reducible apply Ext.drewN | with_reducible apply Ext.alloc | ((with_reducible refine Ext.setCell ?_ ?_ _); rotate_left; focus (first | (simp; done) | (simp; omega) | omega)) | with_reducible refine Ext.tr ?_ x3 | with_reducible refine Ext.tr ?_ xa | with_reducible refine Ext.tr ?_ xc | with_reducible assumption))
          obtain ⟨W1, hW1⟩ : ∃ W1, W1 = wr.alloc (.cells #[.int .i64 K, .int .i64 I, .int .i64 O, .int .i64 Z, .int .i64 T, .int .i64 P, .int .i64 C, .int .i64 H, .slice ab nb cb] 52) := ⟨_, rfl⟩
          rw [← hW1] at BL XW1 ⊢
          have ZW := Lib.hid (show W1.heap.size = wr.heap.size + 1 by rw [hW1]; simp)
          have KP := Lib.hid (fun (W : World) (xx : Ext W1 W) => (show W.cell? ⟨wr.heap.size, 0, none⟩ = some (.int .i64 K) ∧ W.cell? ⟨wr.heap.size, 1, none⟩ = some (.int .i64 I) ∧ W.cell? ⟨wr.heap.size, 2, none⟩ = some (.int .i64 O) ∧ W.cell? ⟨wr.heap.size, 3, none⟩ = some (.int .i64 Z) ∧ W.cell? ⟨wr.heap.size, 4, none⟩ = some (.int .i64 T) ∧ W.cell? ⟨wr.heap.size, 5, none⟩ = some (.int .i64 P) ∧ W.cell? ⟨wr.heap.size, 6, none⟩ = some (.int .i64 C) ∧ W.cell? ⟨wr.heap.size, 7, none⟩ = some (.int .i64 H) ∧ W.cell? ⟨wr.heap.size, 8, none⟩ = some (.slice ab nb cb) ∧ wr.heap.size < W.heap.size ∧ Ext W1 W from ⟨(BL.ext xx).cell 0, (BL.ext xx).cell 1, (BL.ext xx).cell 2, (BL.ext xx).cell 3, (BL.ext xx).cell 4, (BL.ext xx).cell 5, (BL.ext xx).cell 6, (BL.ext xx).cell 7, (BL.ext xx).cell 8, (BL.ext xx).lt, xx⟩))
          clear hW1
          have AL := Lib.hid step_alloc
          cases first with
          | false =>
            refine wp_region_held_drew (S := fun w' => w'.cell? ⟨wr.heap.size, 0, none⟩ = some (.int .i64 K) ∧ w'.cell? ⟨wr.heap.size, 1, none⟩ = some (.int .i64 I) ∧ w'.cell? ⟨wr.heap.size, 2, none⟩ = some (.int .i64 O) ∧ w'.cell? ⟨wr.heap.size, 3, none⟩ = some (.int .i64 Z) ∧ w'.cell? ⟨wr.heap.size, 4, none⟩ = some (.int .i64 T) ∧ w'.cell? ⟨wr.heap.size, 5, none⟩ = some (.int .i64 P) ∧ w'.cell? ⟨wr.heap.size, 6, none⟩ = some (.int .i64 C) ∧ w'.cell? ⟨wr.heap.size, 7, none⟩ = some (.int .i64 H) ∧ w'.cell? ⟨wr.heap.size, 8, none⟩ = some (.slice ab nb cb) ∧ wr.heap.size < w'.heap.size ∧ Ext W1 w') (by kernel_rfl) ?_ (fun hHeld => ?_)
            · (try dsimp only)
              exact KP.out _ (by repeat (first | with_reducible exact Ext.refl _ | with_reducible apply Ext.drew | with_reducible apply Ext.drewN | with_reducible apply Ext.alloc | ((with_reducible refine Ext.setCell ?_ ?_ _); rotate_left; focus (first | (simp; done) | (simp; omega) | omega)) | with_reducible refine Ext.tr ?_ x3 | with_reducible refine Ext.tr ?_ xa | with_reducible refine Ext.tr ?_ xc | with_reducible assumption))
            change wpAnyH _ _ _ _ _ 14 (Array.replicate 14 false) _ _
            refine wpAnyH_take (i := 0) (v := ?_) rfl (by kernel_rfl) (by kernel_rfl) (by kernel_rfl) (fun _ _ _ h => h) (Or.inl ⟨by kernel_rfl, ?_⟩) (by assumption) ?_
            rotate_left
            · (intro w hSw; (try dsimp only at hSw); go_simp; (try with_reducible rfl))
            (try simp only [List.getElem_toArray, List.getElem_cons_zero, Act.put, List.setIfInBounds_toArray, List.set_cons_zero, List.set_cons_succ])
            refine wpAnyH_take (i := 1) (v := ?_) rfl (by kernel_rfl) (by kernel_rfl) (by kernel_rfl) (fun _ _ _ h => h) (Or.inl ⟨by kernel_rfl, ?_⟩) (by assumption) ?_
            rotate_left
            · (intro w hSw; (try dsimp only at hSw); go_simp; (try with_reducible rfl))
            (try simp only [List.getElem_toArray, List.getElem_cons_succ, List.getElem_cons_zero, Act.put, List.setIfInBounds_toArray, List.set_cons_zero, List.set_cons_succ])
            refine wpAnyH_take (i := 2) (v := ?_) rfl (by kernel_rfl) (by kernel_rfl) (by kernel_rfl) (fun _ _ _ h => h) (Or.inl ⟨by kernel_rfl, ?_⟩) (by assumption) ?_
            rotate_left
            · (intro w hSw; (try dsimp only at hSw); go_simp; (try with_reducible rfl))
            (try simp only [List.getElem_toArray, List.getElem_cons_succ, List.getElem_cons_zero, Act.put, List.setIfInBounds_toArray, List.set_cons_zero, List.set_cons_succ])
            refine wpAnyH_take (i := 3) (v := ?_) rfl (by kernel_rfl) (by kernel_rfl) (by kernel_rfl) (fun _ _ _ h => h) (Or.inl ⟨by kernel_rfl, ?_⟩) (by assumption) ?_
            rotate_left
            · (intro w hSw; (try dsimp only at hSw); go_simp; (try with_reducible rfl))
            (try simp only [List.getElem_toArray, List.getElem_cons_succ, List.getElem_cons_zero, Act.put, List.setIfInBounds_toArray, List.set_cons_zero, List.set_cons_succ])
            refine wpAnyH_take (i := 4) (v := undef) rfl (by kernel_rfl) (by kernel_rfl) (by kernel_rfl) (fun _ _ _ h => h) (Or.inr ⟨by kernel_rfl, rfl⟩) (by assumption) ?_
            (try simp only [List.getElem_toArray, List.getElem_cons_succ, List.getElem_cons_zero, Act.put, List.setIfInBounds_toArray, List.set_cons_zero, List.set_cons_succ])
            refine wpAnyH_take (i := 5) (v := undef) rfl (by kernel_rfl) (by kernel_rfl) (by kernel_rfl) (fun _ _ _ h => h) (Or.inr ⟨by kernel_rfl, rfl⟩) (by assumption) ?_
            (try simp only [List.getElem_toArray, List.getElem_cons_succ, List.getElem_cons_zero, Act.put, List.setIfInBounds_toArray, List.set_cons_zero, List.set_cons_succ])
            refine wpAnyH_take (i := 6) (v := ?_) rfl (by kernel_rfl) (by kernel_rfl) (by kernel_rfl) (fun _ _ _ h => h) (Or.inl ⟨by kernel_rfl, ?_⟩) (by assumption) ?_
            rotate_left
            · (intro w hSw; (try dsimp only at hSw); go_simp; (try with_reducible rfl))
            (try simp only [List.getElem_toArray, List.getElem_cons_succ, List.getElem_cons_zero, Act.put, List.setIfInBounds_toArray, List.set_cons_zero, List.set_cons_succ])
            refine wpAnyH_take (i := 7) (v := ?_) rfl (by kernel_rfl) (by kernel_rfl) (by kernel_rfl) (fun _ _ _ h => h) (Or.inl ⟨by kernel_rfl, ?_⟩) (by assumption) ?_
            rotate_left
            · (intro w hSw; (try dsimp only at hSw); go_simp; (try with_reducible rfl))
            (try simp only [List.getElem_toArray, List.getElem_cons_succ, List.getElem_cons_zero, Act.put, List.setIfInBounds_toArray, List.set_cons_zero, List.set_cons_succ])
            refine wpAnyH_take (i := 8) (v := ?_) rfl (by kernel_rfl) (by kernel_rfl) (by kernel_rfl) (fun _ _ _ h => h) (Or.inl ⟨by kernel_rfl, ?_⟩) (by assumption) ?_
            rotate_left
            · (intro w hSw; (try dsimp only at hSw); go_simp; (try with_reducible rfl))
            (try simp only [List.getElem_toArray, List.getElem_cons_succ, List.getElem_cons_zero, Act.put, List.setIfInBounds_toArray, List.set_cons_zero, List.set_cons_succ])
            refine wpAnyH_ready (rs := [9, 12]) (by kernel_rfl) (by simp) ?_
            refine AllReadyH.cons rfl (fun K hK => ?_) (AllReadyH.cons rfl (fun K hK => ?_) AllReadyH.nil)
            · go_simp
              go_at_call 55
              refine (IT.out _).mono ?_
              rintro e w' ⟨rfl, rfl⟩
              go_wp2_with fail
              refine hK.out _ _ ?_ (fun hHeld => ?_)
              · (try dsimp only)
                exact KP.out _ (by repeat (first | with_reducible exact Ext.refl _ | with_reducible apply Ext.drew | with_reducible apply Ext.drewN | with_reducible apply Ext.alloc | ((with_reducible refine Ext.setCell ?_ ?_ _); rotate_left; focus (first | (simp; done) | (simp; omega) | omega)) | with_reducible refine Ext.tr ?_ x3 | with_reducible refine Ext.tr ?_ xa | with_reducible refine Ext.tr ?_ xc | with_reducible assumption))
              clear hK K
              (try simp only [List.getElem_toArray, List.getElem_cons_succ, List.getElem_cons_zero, Act.put, List.setIfInBounds_toArray, List.set_cons_zero, List.set_cons_succ])
              refine wpAnyH_take (i := 10) (v := ?_) rfl (by kernel_rfl) (by kernel_rfl) (by kernel_rfl) (fun _ _ _ h => h) (Or.inl ⟨by kernel_rfl, ?_⟩) (by assumption) ?_
              rotate_left
              · (intro w hSw; (try dsimp only at hSw); go_simp; (try with_reducible rfl))
              (try simp only [List.getElem_toArray, List.getElem_cons_succ, List.getElem_cons_zero, Act.put, List.setIfInBounds_toArray, List.set_cons_zero, List.set_cons_succ])
              refine wpAnyH_take (i := 11) (v := .agg #[.int .i64 K, .int .i64 I, .int .i64 O, .int .i64 Z, .int .i64 T, .int .i64 P, .int .i64 C, .int .i64 H, .slice ab nb cb, .slice xa x.length xc, .slice none 0 0, .slice none 0 0, .bool false, .string NM, .int .i64 0, .bool false]) rfl (by kernel_rfl) (by kernel_rfl) (by kernel_rfl) (fun _ _ _ h => h) (Or.inl ⟨by kernel_rfl, fun w _ => run_built_op 71 #[(0, .tmp 24), (1, .tmp 25), (4, .tmp 30), (5, .tmp 34)] rfl (by rfl) (step_built ..)⟩) (by assumption) ?_
              (try simp only [List.getElem_toArray, List.getElem_cons_succ, List.getElem_cons_zero, Act.put, List.setIfInBounds_toArray, List.set_cons_zero, List.set_cons_succ])
              refine wpAnyH_ready (rs := [12]) (by kernel_rfl) (by simp) ?_
              refine AllReadyH.cons rfl (fun K hK => ?_) AllReadyH.nil
              refine want_pos (by kernel_rfl) ?_
              refine wp_alloc_at 71 rfl (AL.out _) ?_
              refine hK.out _ _ ?_ (fun hHeld => ?_)
              · (try dsimp only)
                exact KP.out _ (by repeat (first | with_reducible exact Ext.refl _ | with_reducible apply Ext.drew | with_reducible apply Ext.drewN | with_reducible apply Ext.alloc | ((with_reducible refine Ext.setCell ?_ ?_ _); rotate_left; focus (first | (simp; done) | (simp; omega) | omega)) | with_reducible refine Ext.tr ?_ x3 | with_reducible refine Ext.tr ?_ xa | with_reducible refine Ext.tr ?_ xc | with_reducible assumption))
              clear hK K
              (try simp only [List.getElem_toArray, List.getElem_cons_succ, List.getElem_cons_zero, Act.put, List.setIfInBounds_toArray, List.set_cons_zero, List.set_cons_succ])
              refine wpAnyH_ready (rs := [13]) (by kernel_rfl) (by simp) ?_
              refine AllReadyH.cons rfl (fun K hK => ?_) AllReadyH.nil
              have xR := fun cs => Ext.setRow (g := W1.heap.size) (((Ext.refl W1).drew.alloc (.cells #[.int .i64 0, .int .i64 0, .int .i64 0, .int .i64 0, .int .i64 0, .int .i64 0, .int .i64 0, .int .i64 0, .slice none 0 0, .slice none 0 0, .slice none 0 0, .slice none 0 0, .bool false, .string ⟨#[]⟩, .int .i64 0, .bool false] 71))) (Nat.le_refl _) cs
              have BK := (Blk.new (W1.drew) 71 #[.int .i64 0, .int .i64 0, .int .i64 0, .int .i64 0, .int .i64 0, .int .i64 0, .int .i64 0, .int .i64 0, .slice none 0 0, .slice none 0 0, .slice none 0 0, .slice none 0 0, .bool false, .string ⟨#[]⟩, .int .i64 0, .bool false])
              refine want_pos (by kernel_rfl) ?_
              refine wp_store_row _ _ _ rfl _ _ rfl rfl _ _ BK (by kernel_rfl) rfl (by simp [Value.oneCell']) ?_
              refine hK.out _ _ ?_ (fun hHeld => ?_)
              · (try dsimp only)
                exact KP.out _ (xR _)
              clear hK K
              (try simp only [List.getElem_toArray, List.getElem_cons_succ, List.getElem_cons_zero, Act.put])
              refine wpAnyH_done (by kernel_rfl) ?_ _
              go_wp2_with fail
              go_meet
              exact ⟨W1.heap.size, rfl, Blk.row BK, BL.ext (xR _), XW1.tr (xR _), by have := ZW.out; omega⟩
            · refine want_pos (by kernel_rfl) ?_
              refine wp_alloc_at 71 rfl (AL.out _) ?_
              refine hK.out _ _ ?_ (fun hHeld => ?_)
              · (try dsimp only)
                exact KP.out _ (by repeat (first | with_reducible exact Ext.refl _ | with_reducible apply Ext.drew | with_reducible apply Ext.drewN | with_reducible apply Ext.alloc | ((with_reducible refine Ext.setCell ?_ ?_ _); rotate_left; focus (first | (simp; done) | (simp; omega) | omega)) | with_reducible refine Ext.tr ?_ x3 | with_reducible refine Ext.tr ?_ xa | with_reducible refine Ext.tr ?_ xc | with_reducible assumption))
              clear hK K
              (try simp only [List.getElem_toArray, List.getElem_cons_succ, List.getElem_cons_zero, Act.put])
              refine wpAnyH_ready (rs := [9]) (by kernel_rfl) (by simp) ?_
              refine AllReadyH.cons rfl (fun K hK => ?_) AllReadyH.nil
              go_simp
              go_at_call 55
              refine (IT.out _).mono ?_
              rintro e w' ⟨rfl, rfl⟩
              go_wp2_with fail
              refine hK.out _ _ ?_ (fun hHeld => ?_)
              · (try dsimp only)
                exact KP.out _ (by repeat (first | with_reducible exact Ext.refl _ | with_reducible apply Ext.drew | with_reducible apply Ext.drewN | with_reducible apply Ext.alloc | ((with_reducible refine Ext.setCell ?_ ?_ _); rotate_left; focus (first | (simp; done) | (simp; omega) | omega)) | with_reducible refine Ext.tr ?_ x3 | with_reducible refine Ext.tr ?_ xa | with_reducible refine Ext.tr ?_ xc | with_reducible assumption))
              clear hK K
              (try simp only [List.getElem_toArray, List.getElem_cons_succ, List.getElem_cons_zero, Act.put, List.setIfInBounds_toArray, List.set_cons_zero, List.set_cons_succ])
              refine wpAnyH_take (i := 10) (v := ?_) rfl (by kernel_rfl) (by kernel_rfl) (by kernel_rfl) (fun _ _ _ h => h) (Or.inl ⟨by kernel_rfl, ?_⟩) (by assumption) ?_
              rotate_left
              · (intro w hSw; (try dsimp only at hSw); go_simp; (try with_reducible rfl))
              (try simp only [List.getElem_toArray, List.getElem_cons_succ, List.getElem_cons_zero, Act.put, List.setIfInBounds_toArray, List.set_cons_zero, List.set_cons_succ])
              refine wpAnyH_take (i := 11) (v := .agg #[.int .i64 K, .int .i64 I, .int .i64 O, .int .i64 Z, .int .i64 T, .int .i64 P, .int .i64 C, .int .i64 H, .slice ab nb cb, .slice xa x.length xc, .slice none 0 0, .slice none 0 0, .bool false, .string NM, .int .i64 0, .bool false]) rfl (by kernel_rfl) (by kernel_rfl) (by kernel_rfl) (fun _ _ _ h => h) (Or.inl ⟨by kernel_rfl, fun w _ => run_built_op 71 #[(0, .tmp 24), (1, .tmp 25), (4, .tmp 30), (5, .tmp 34)] rfl (by rfl) (step_built ..)⟩) (by assumption) ?_
              (try simp only [List.getElem_toArray, List.getElem_cons_succ, List.getElem_cons_zero, Act.put, List.setIfInBounds_toArray, List.set_cons_zero, List.set_cons_succ])
              refine wpAnyH_ready (rs := [13]) (by kernel_rfl) (by simp) ?_
              refine AllReadyH.cons rfl (fun K hK => ?_) AllReadyH.nil
              have xR := fun cs => Ext.setRow (g := W1.heap.size) (((Ext.refl W1).alloc (.cells #[.int .i64 0, .int .i64 0, .int .i64 0, .int .i64 0, .int .i64 0, .int .i64 0, .int .i64 0, .int .i64 0, .slice none 0 0, .slice none 0 0, .slice none 0 0, .slice none 0 0, .bool false, .string ⟨#[]⟩, .int .i64 0, .bool false] 71)).drew) (Nat.le_refl _) cs
              have BK := (Blk.new (W1) 71 #[.int .i64 0, .int .i64 0, .int .i64 0, .int .i64 0, .int .i64 0, .int .i64 0, .int .i64 0, .int .i64 0, .slice none 0 0, .slice none 0 0, .slice none 0 0, .slice none 0 0, .bool false, .string ⟨#[]⟩, .int .i64 0, .bool false]).drew
              refine want_pos (by kernel_rfl) ?_
              refine wp_store_row _ _ _ rfl _ _ rfl rfl _ _ BK (by kernel_rfl) rfl (by simp [Value.oneCell']) ?_
              refine hK.out _ _ ?_ (fun hHeld => ?_)
              · (try dsimp only)
                exact KP.out _ (xR _)
              clear hK K
              (try simp only [List.getElem_toArray, List.getElem_cons_succ, List.getElem_cons_zero, Act.put])
              refine wpAnyH_done (by kernel_rfl) ?_ _
              go_wp2_with fail
              go_meet
              exact ⟨W1.heap.size, rfl, Blk.row BK, BL.ext (xR _), XW1.tr (xR _), by have := ZW.out; omega⟩
          | true =>
            refine wp_region_held_drew (S := fun w' => w'.cell? ⟨wr.heap.size, 0, none⟩ = some (.int .i64 K) ∧ w'.cell? ⟨wr.heap.size, 1, none⟩ = some (.int .i64 I) ∧ w'.cell? ⟨wr.heap.size, 2, none⟩ = some (.int .i64 O) ∧ w'.cell? ⟨wr.heap.size, 3, none⟩ = some (.int .i64 Z) ∧ w'.cell? ⟨wr.heap.size, 4, none⟩ = some (.int .i64 T) ∧ w'.cell? ⟨wr.heap.size, 5, none⟩ = some (.int .i64 P) ∧ w'.cell? ⟨wr.heap.size, 6, none⟩ = some (.int .i64 C) ∧ w'.cell? ⟨wr.heap.size, 7, none⟩ = some (.int .i64 H) ∧ w'.cell? ⟨wr.heap.size, 8, none⟩ = some (.slice ab nb cb) ∧ wr.heap.size < w'.heap.size ∧ Ext W1 w') (by kernel_rfl) ?_ (fun hHeld => ?_)
            · (try dsimp only)
              exact KP.out _ (by repeat (first | with_reducible exact Ext.refl _ | with_reducible apply Ext.drew | with_reducible apply Ext.drewN | with_reducible apply Ext.alloc | ((with_reducible refine Ext.setCell ?_ ?_ _); rotate_left; focus (first | (simp; done) | (simp; omega) | omega)) | with_reducible refine Ext.tr ?_ x3 | with_reducible refine Ext.tr ?_ xa | with_reducible refine Ext.tr ?_ xc | with_reducible assumption))
            change wpAnyH _ _ _ _ _ 14 (Array.replicate 14 false) _ _
            refine wpAnyH_take (i := 0) (v := ?_) rfl (by kernel_rfl) (by kernel_rfl) (by kernel_rfl) (fun _ _ _ h => h) (Or.inl ⟨by kernel_rfl, ?_⟩) (by assumption) ?_
            rotate_left
            · (intro w hSw; (try dsimp only at hSw); go_simp; (try with_reducible rfl))
            (try simp only [List.getElem_toArray, List.getElem_cons_zero, Act.put, List.setIfInBounds_toArray, List.set_cons_zero, List.set_cons_succ])
            refine wpAnyH_take (i := 1) (v := ?_) rfl (by kernel_rfl) (by kernel_rfl) (by kernel_rfl) (fun _ _ _ h => h) (Or.inl ⟨by kernel_rfl, ?_⟩) (by assumption) ?_
            rotate_left
            · (intro w hSw; (try dsimp only at hSw); go_simp; (try with_reducible rfl))
            (try simp only [List.getElem_toArray, List.getElem_cons_succ, List.getElem_cons_zero, Act.put, List.setIfInBounds_toArray, List.set_cons_zero, List.set_cons_succ])
            refine wpAnyH_take (i := 2) (v := ?_) rfl (by kernel_rfl) (by kernel_rfl) (by kernel_rfl) (fun _ _ _ h => h) (Or.inl ⟨by kernel_rfl, ?_⟩) (by assumption) ?_
            rotate_left
            · (intro w hSw; (try dsimp only at hSw); go_simp; (try with_reducible rfl))
            (try simp only [List.getElem_toArray, List.getElem_cons_succ, List.getElem_cons_zero, Act.put, List.setIfInBounds_toArray, List.set_cons_zero, List.set_cons_succ])
            refine wpAnyH_take (i := 3) (v := ?_) rfl (by kernel_rfl) (by kernel_rfl) (by kernel_rfl) (fun _ _ _ h => h) (Or.inl ⟨by kernel_rfl, ?_⟩) (by assumption) ?_
            rotate_left
            · (intro w hSw; (try dsimp only at hSw); go_simp; (try with_reducible rfl))
            (try simp only [List.getElem_toArray, List.getElem_cons_succ, List.getElem_cons_zero, Act.put, List.setIfInBounds_toArray, List.set_cons_zero, List.set_cons_succ])
            refine wpAnyH_take (i := 4) (v := ?_) rfl (by kernel_rfl) (by kernel_rfl) (by kernel_rfl) (fun _ _ _ h => h) (Or.inl ⟨by kernel_rfl, ?_⟩) (by assumption) ?_
            rotate_left
            · (intro w hSw; (try dsimp only at hSw); go_simp; (try with_reducible rfl))
            (try simp only [List.getElem_toArray, List.getElem_cons_succ, List.getElem_cons_zero, Act.put, List.setIfInBounds_toArray, List.set_cons_zero, List.set_cons_succ])
            refine wpAnyH_take (i := 5) (v := ?_) rfl (by kernel_rfl) (by kernel_rfl) (by kernel_rfl) (fun _ _ _ h => h) (Or.inl ⟨by kernel_rfl, ?_⟩) (by assumption) ?_
            rotate_left
            · (intro w hSw; (try dsimp only at hSw); go_simp; (try with_reducible rfl))
            (try simp only [List.getElem_toArray, List.getElem_cons_succ, List.getElem_cons_zero, Act.put, List.setIfInBounds_toArray, List.set_cons_zero, List.set_cons_succ])
            refine wpAnyH_take (i := 6) (v := ?_) rfl (by kernel_rfl) (by kernel_rfl) (by kernel_rfl) (fun _ _ _ h => h) (Or.inl ⟨by kernel_rfl, ?_⟩) (by assumption) ?_
            rotate_left
            · (intro w hSw; (try dsimp only at hSw); go_simp; (try with_reducible rfl))
            (try simp only [List.getElem_toArray, List.getElem_cons_succ, List.getElem_cons_zero, Act.put, List.setIfInBounds_toArray, List.set_cons_zero, List.set_cons_succ])
            refine wpAnyH_take (i := 7) (v := ?_) rfl (by kernel_rfl) (by kernel_rfl) (by kernel_rfl) (fun _ _ _ h => h) (Or.inl ⟨by kernel_rfl, ?_⟩) (by assumption) ?_
            rotate_left
            · (intro w hSw; (try dsimp only at hSw); go_simp; (try with_reducible rfl))
            (try simp only [List.getElem_toArray, List.getElem_cons_succ, List.getElem_cons_zero, Act.put, List.setIfInBounds_toArray, List.set_cons_zero, List.set_cons_succ])
            refine wpAnyH_take (i := 8) (v := ?_) rfl (by kernel_rfl) (by kernel_rfl) (by kernel_rfl) (fun _ _ _ h => h) (Or.inl ⟨by kernel_rfl, ?_⟩) (by assumption) ?_
            rotate_left
            · (intro w hSw; (try dsimp only at hSw); go_simp; (try with_reducible rfl))
            (try simp only [List.getElem_toArray, List.getElem_cons_succ, List.getElem_cons_zero, Act.put, List.setIfInBounds_toArray, List.set_cons_zero, List.set_cons_succ])
            refine wpAnyH_ready (rs := [9, 12]) (by kernel_rfl) (by simp) ?_
            refine AllReadyH.cons rfl (fun K hK => ?_) (AllReadyH.cons rfl (fun K hK => ?_) AllReadyH.nil)
            · go_simp
              go_at_call 55
              refine (IT.out _).mono ?_
              rintro e w' ⟨rfl, rfl⟩
              go_wp2_with fail
              refine hK.out _ _ ?_ (fun hHeld => ?_)
              · (try dsimp only)
                exact KP.out _ (by repeat (first | with_reducible exact Ext.refl _ | with_reducible apply Ext.drew | with_reducible apply Ext.drewN | with_reducible apply Ext.alloc | ((with_reducible refine Ext.setCell ?_ ?_ _); rotate_left; focus (first | (simp; done) | (simp; omega) | omega)) | with_reducible refine Ext.tr ?_ x3 | with_reducible refine Ext.tr ?_ xa | with_reducible refine Ext.tr ?_ xc | with_reducible assumption))
              clear hK K
              (try simp only [List.getElem_toArray, List.getElem_cons_succ, List.getElem_cons_zero, Act.put, List.setIfInBounds_toArray, List.set_cons_zero, List.set_cons_succ])
              refine wpAnyH_take (i := 10) (v := ?_) rfl (by kernel_rfl) (by kernel_rfl) (by kernel_rfl) (fun _ _ _ h => h) (Or.inl ⟨by kernel_rfl, ?_⟩) (by assumption) ?_
              rotate_left
              · (intro w hSw; (try dsimp only at hSw); go_simp; (try with_reducible rfl))
              (try simp only [List.getElem_toArray, List.getElem_cons_succ, List.getElem_cons_zero, Act.put, List.setIfInBounds_toArray, List.set_cons_zero, List.set_cons_succ])
              refine wpAnyH_take (i := 11) (v := .agg #[.int .i64 K, .int .i64 I, .int .i64 O, .int .i64 Z, .int .i64 T, .int .i64 P, .int .i64 C, .int .i64 H, .slice ab nb cb, .slice xa x.length xc, .slice none 0 0, .slice none 0 0, .bool z0, .string NM, .int .i64 0, .bool false]) rfl (by kernel_rfl) (by kernel_rfl) (by kernel_rfl) (fun _ _ _ h => h) (Or.inl ⟨by kernel_rfl, fun w _ => run_built_op 71 #[(0, .tmp 24), (1, .tmp 25), (4, .tmp 30), (5, .tmp 34)] rfl (by rfl) (step_built ..)⟩) (by assumption) ?_
              (try simp only [List.getElem_toArray, List.getElem_cons_succ, List.getElem_cons_zero, Act.put, List.setIfInBounds_toArray, List.set_cons_zero, List.set_cons_succ])
              refine wpAnyH_ready (rs := [12]) (by kernel_rfl) (by simp) ?_
              refine AllReadyH.cons rfl (fun K hK => ?_) AllReadyH.nil
              refine want_pos (by kernel_rfl) ?_
              refine wp_alloc_at 71 rfl (AL.out _) ?_
              refine hK.out _ _ ?_ (fun hHeld => ?_)
              · (try dsimp only)
                exact KP.out _ (by repeat (first | with_reducible exact Ext.refl _ | with_reducible apply Ext.drew | with_reducible apply Ext.drewN | with_reducible apply Ext.alloc | ((with_reducible refine Ext.setCell ?_ ?_ _); rotate_left; focus (first | (simp; done) | (simp; omega) | omega)) | with_reducible refine Ext.tr ?_ x3 | with_reducible refine Ext.tr ?_ xa | with_reducible refine Ext.tr ?_ xc | with_reducible assumption))
              clear hK K
              (try simp only [List.getElem_toArray, List.getElem_cons_succ, List.getElem_cons_zero, Act.put, List.setIfInBounds_toArray, List.set_cons_zero, List.set_cons_succ])
              refine wpAnyH_ready (rs := [13]) (by kernel_rfl) (by simp) ?_
              refine AllReadyH.cons rfl (fun K hK => ?_) AllReadyH.nil
              have xR := fun cs => Ext.setRow (g := W1.heap.size) (((Ext.refl W1).drew.alloc (.cells #[.int .i64 0, .int .i64 0, .int .i64 0, .int .i64 0, .int .i64 0, .int .i64 0, .int .i64 0, .int .i64 0, .slice none 0 0, .slice none 0 0, .slice none 0 0, .slice none 0 0, .bool false, .string ⟨#[]⟩, .int .i64 0, .bool false] 71))) (Nat.le_refl _) cs
              have BK := (Blk.new (W1.drew) 71 #[.int .i64 0, .int .i64 0, .int .i64 0, .int .i64 0, .int .i64 0, .int .i64 0, .int .i64 0, .int .i64 0, .slice none 0 0, .slice none 0 0, .slice none 0 0, .slice none 0 0, .bool false, .string ⟨#[]⟩, .int .i64 0, .bool false])
              refine want_pos (by kernel_rfl) ?_
              refine wp_store_row _ _ _ rfl _ _ rfl rfl _ _ BK (by kernel_rfl) rfl (by simp [Value.oneCell']) ?_
              refine hK.out _ _ ?_ (fun hHeld => ?_)
              · (try dsimp only)
                exact KP.out _ (xR _)
              clear hK K
              (try simp only [List.getElem_toArray, List.getElem_cons_succ, List.getElem_cons_zero, Act.put])
              refine wpAnyH_done (by kernel_rfl) ?_ _
              go_wp2_with fail
              go_meet
              exact ⟨W1.heap.size, rfl, Blk.row BK, BL.ext (xR _), XW1.tr (xR _), by have := ZW.out; omega⟩
            · refine want_pos (by kernel_rfl) ?_
              refine wp_alloc_at 71 rfl (AL.out _) ?_
              refine hK.out _ _ ?_ (fun hHeld => ?_)
              · (try dsimp only)
                exact KP.out _ (by repeat (first | with_reducible exact Ext.refl _ | with_reducible apply Ext.drew | with_reducible apply Ext.drewN | with_reducible apply Ext.alloc | ((with_reducible refine Ext.setCell ?_ ?_ _); rotate_left; focus (first | (simp; done) | (simp; omega) | omega)) | with_reducible refine Ext.tr ?_ x3 | with_reducible refine Ext.tr ?_ xa | with_reducible refine Ext.tr ?_ xc | with_reducible assumption))
              clear hK K
              (try simp only [List.getElem_toArray, List.getElem_cons_succ, List.getElem_cons_zero, Act.put])
              refine wpAnyH_ready (rs := [9]) (by kernel_rfl) (by simp) ?_
              refine AllReadyH.cons rfl (fun K hK => ?_) AllReadyH.nil
              go_simp
              go_at_call 55
              refine (IT.out _).mono ?_
              rintro e w' ⟨rfl, rfl⟩
              go_wp2_with fail
              refine hK.out _ _ ?_ (fun hHeld => ?_)
              · (try dsimp only)
                exact KP.out _ (by repeat (first | with_reducible exact Ext.refl _ | with_reducible apply Ext.drew | with_reducible apply Ext.drewN | with_reducible apply Ext.alloc | ((with_reducible refine Ext.setCell ?_ ?_ _); rotate_left; focus (first | (simp; done) | (simp; omega) | omega)) | with_reducible refine Ext.tr ?_ x3 | with_reducible refine Ext.tr ?_ xa | with_reducible refine Ext.tr ?_ xc | with_reducible assumption))
              clear hK K
              (try simp only [List.getElem_toArray, List.getElem_cons_succ, List.getElem_cons_zero, Act.put, List.setIfInBounds_toArray, List.set_cons_zero, List.set_cons_succ])
              refine wpAnyH_take (i := 10) (v := ?_) rfl (by kernel_rfl) (by kernel_rfl) (by kernel_rfl) (fun _ _ _ h => h) (Or.inl ⟨by kernel_rfl, ?_⟩) (by assumption) ?_
              rotate_left
              · (intro w hSw; (try dsimp only at hSw); go_simp; (try with_reducible rfl))
              (try simp only [List.getElem_toArray, List.getElem_cons_succ, List.getElem_cons_zero, Act.put, List.setIfInBounds_toArray, List.set_cons_zero, List.set_cons_succ])
              refine wpAnyH_take (i := 11) (v := .agg #[.int .i64 K, .int .i64 I, .int .i64 O, .int .i64 Z, .int .i64 T, .int .i64 P, .int .i64 C, .int .i64 H, .slice ab nb cb, .slice xa x.length xc, .slice none 0 0, .slice none 0 0, .bool z0, .string NM, .int .i64 0, .bool false]) rfl (by kernel_rfl) (by kernel_rfl) (by kernel_rfl) (fun _ _ _ h => h) (Or.inl ⟨by kernel_rfl, fun w _ => run_built_op 71 #[(0, .tmp 24), (1, .tmp 25), (4, .tmp 30), (5, .tmp 34)] rfl (by rfl) (step_built ..)⟩) (by assumption) ?_
              (try simp only [List.getElem_toArray, List.getElem_cons_succ, List.getElem_cons_zero, Act.put, List.setIfInBounds_toArray, List.set_cons_zero, List.set_cons_succ])
              refine wpAnyH_ready (rs := [13]) (by kernel_rfl) (by simp) ?_
              refine AllReadyH.cons rfl (fun K hK => ?_) AllReadyH.nil
              have xR := fun cs => Ext.setRow (g := W1.heap.size) (((Ext.refl W1).alloc (.cells #[.int .i64 0, .int .i64 0, .int .i64 0, .int .i64 0, .int .i64 0, .int .i64 0, .int .i64 0, .int .i64 0, .slice none 0 0, .slice none 0 0, .slice none 0 0, .slice none 0 0, .bool false, .string ⟨#[]⟩, .int .i64 0, .bool false] 71)).drew) (Nat.le_refl _) cs
              have BK := (Blk.new (W1) 71 #[.int .i64 0, .int .i64 0, .int .i64 0, .int .i64 0, .int .i64 0, .int .i64 0, .int .i64 0, .int .i64 0, .slice none 0 0, .slice none 0 0, .slice none 0 0, .slice none 0 0, .bool false, .string ⟨#[]⟩, .int .i64 0, .bool false]).drew
              refine want_pos (by kernel_rfl) ?_
              refine wp_store_row _ _ _ rfl _ _ rfl rfl _ _ BK (by kernel_rfl) rfl (by simp [Value.oneCell']) ?_
              refine hK.out _ _ ?_ (fun hHeld => ?_)
              · (try dsimp only)
                exact KP.out _ (xR _)
              clear hK K
              (try simp only [List.getElem_toArray, List.getElem_cons_succ, List.getElem_cons_zero, Act.put])
              refine wpAnyH_done (by kernel_rfl) ?_ _
              go_wp2_with fail
              go_meet
              exact ⟨W1.heap.size, rfl, Blk.row BK, BL.ext (xR _), XW1.tr (xR _), by have := ZW.out; omega⟩
        obtain ⟨S, rfl, hblk, hlay, hxc, hSz⟩ := hcut
        rename_i hK
        have l0 := (hlay.cell 0).trans (show _ = some (.int .i64 K) from rfl)
        have zL := hlay.lt
        have zS := hblk.lt
        obtain ⟨FB, hFB⟩ : ∃ FB, (first && z0) = FB := ⟨_, rfl⟩
        rw [hFB] at hblk
        have HFB := Lib.hid (show (first && decide (k = 0)) = FB by rw [HZ0.out]; exact hFB)
        have HR := Lib.hid (HROW.out.ext hxc)
        have HXC := Lib.hid hxc
        have HKC2 := Lib.hid (HKC.out.trans (KC.ext hxc))
        have GL : Hid ((L[k]).good deep lf' = some l' ∨ ∃ m, (L[k]).good deep lf' = some m ∧ goodS deep m (L.drop (k + 1)) = some l') := Lib.hid (by
          have h := HGK.out
          rw [DR.out, goodS] at h
          cases hm : (L[k]).good deep lf' with
          | none => rw [hm] at h; cases h
          | some m => rw [hm] at h; exact .inr ⟨m, rfl, h⟩)
        clear hFB Z0 IT ADD
        by_cases h13 : K = 13
        · subst h13
          obtain ⟨m, hm1, hm2⟩ : ∃ m, (L[k]).good deep lf' = some m ∧ goodS deep m (L.drop (k + 1)) = some l' := by
            rcases GL.out with h | h
            · have h2 := HGK.out
              rw [DR.out, goodS, h] at h2
              exact ⟨_, h, h2⟩
            · exact h
          rw [EL.out] at hm1
          obtain ⟨hd4, hbody, hl1⟩ := good_body hm1 rfl
          have HJV : Hid ((L[k]).infer FB (ahead ++ Lib.itoa (k : Int)) x = match inferS false ((ahead ++ Lib.itoa (k : Int)) ++ [46]) 0 x bd with
            | .bad e => .bad e
            | .ok y qs => if y = x then .ok x qs else .bad 2) := Lib.hid (by rw [EL.out]; exact infer_body rfl)
          have hN46 : (ahead ++ Lib.itoa (k : Int) ++ [46]).length ≤ 10 * (deep + 1) := by
            rw [List.length_append, List.length_append, itoa_nat]
            have := dec_len 1 k (by omega)
            simp only [List.length_singleton]
            omega
          have ADD := add_ba (A := NM) (B := ⟨#[46]⟩) (C := ba ((ahead ++ Lib.itoa (k : Int)) ++ [46])) (by rw [← HNM.out, ← ba_app]; rfl) (by
            have : NM.size = (ahead ++ Lib.itoa (k : Int)).length := by rw [← HNM.out]; exact ba_size _
            rw [List.length_append] at hN46
            rw [this]
            show _ + 1 ≤ _
            omega)
          have HM2 := Lib.hid hm2
          have HBODY := Lib.hid hbody
          have hml : m ≤ 64 := by
            have h := hbody
            rw [goods_count] at h
            split at h
            · cases h; omega
            · cases h
          obtain ⟨NM2, hNM2⟩ : ∃ N, ba ((ahead ++ Lib.itoa (k : Int)) ++ [46]) = N := ⟨_, rfl⟩
          rw [hNM2] at ADD
          have HNM2 := Lib.hid hNM2
          clear hm1 hm2 hbody GL hNM2
          obtain ⟨EV, hEV⟩ : ∃ EV : EvV, EV = ⟨k, stepA ⟨13, I, O, Z, T, P, C, H⟩ (.slice ab nb cb) (.slice xa x.length xc) (.slice xa x.length xc) (.slice none 0 0) FB NM 0 false, ⟨0, x, []⟩⟩ := ⟨_, rfl⟩
          have gv := (GB.refl wc S).set 10 (.slice xa x.length xc)
          have bv : Blk (wc.setCell ⟨S, 10, none⟩ (.slice xa x.length xc)) S 71 (stepA ⟨13, I, O, Z, T, P, C, H⟩ (.slice ab nb cb) (.slice xa x.length xc) (.slice xa x.length xc) (.slice none 0 0) FB NM 0 false) := hblk.set_ 10 _
          have lv : Blk (wc.setCell ⟨S, 10, none⟩ (.slice xa x.length xc)) wr.heap.size 52 _ := hlay.far (by show wr.heap.size ≠ S; omega) _
          have rv := HR.out.gb gv hblk (by decide) (by omega)
          have hat : AtEv B EV (wc.setCell ⟨S, 10, none⟩ (.slice xa x.length xc)) := by
            rw [hEV]
            exact ⟨_, _, _, _, _, _, _, _, _, _, _, _, _, _, _, _, rfl, fun _ => ⟨rfl, rv, rfl, ParsAt.nil _ _⟩⟩
          have hpe : parsOf [EV] = [] := by rw [hEV]; simp [parsOf]
          have hps : (parsOf (p0 ++ xs ++ [EV])).length = (parsOf (p0 ++ xs)).length := by
            rw [parsOf_app, List.length_append, hpe]
            rfl
          have hki : KI B wr (wc.setCell ⟨S, 10, none⟩ (.slice xa x.length xc)) := (KI.ext hxc).trans (KI.gb gv hblk (by omega))
          have hkc : KC B W (wc.setCell ⟨S, 10, none⟩ (.slice xa x.length xc)) := (HKC.out.trans (KC.ext hxc)).far gv (by have := HKC.out.size; omega)
          have hkr : KC B wr (wc.setCell ⟨S, 10, none⟩ (.slice xa x.length xc)) := (KC.ext hxc).far gv (by omega)
          have hyy := HY.out (p0 ++ xs) EV _ (by unfold PreEv; have := HPAR.out; omega) hat (HSJ.out _ _ _ HJ.out hki)
          rw [hEV] at hyy
          obtain ⟨fn, tmps, assign, body, hy, hR⟩ := hyy
          dsimp only [encEv, stepA] at hy
          have HRR := Lib.hid hR
          have HEV2 := Lib.hid hEV
          have HPE := Lib.hid hpe
          have HPS := Lib.hid hps
          have BV := Lib.hid bv
          have LV := Lib.hid lv
          have RV := Lib.hid rv
          have HKC3 := Lib.hid hkc
          have HKR := Lib.hid hkr
          obtain ⟨a0, a1, a2, a3, a4, a5, a6, a7, a8, a9, a10, a11, a12, a13, a14, a15⟩ := sixteen hblk
          have f10 := hblk.frozen 10
          refine hK _ _ ?_
          clear hK gv bv lv rv hat hpe hps hki hkc hkr hR hEV hblk hlay hxc
          gi_wp2
          refine HRR.out.mono ?_
          rintro e W3 (⟨hgo, rfl, hJ3, hk3⟩ | ⟨hgo, _⟩)
          · rw [← HEV2.out] at hJ3
            have b3 := BV.out.kc hk3
            have y3 := (LV.out.kcl hk3).cell 8
            have y3 := y3.trans (show _ = some (.slice ab nb cb) from rfl)
            have j13 := b3.cells 13 (show _ = some (.string NM) from rfl)
            have HK3 := Lib.hid (HKC3.out.trans hk3)
            have HB3 := Lib.hid b3
            have HL3 := Lib.hid (show LaysAt A W3 n (.slice ab nb cb) bd by rw [← HNB.out]; exact S1.out.kc (HKR.out.trans hk3) HAB.out)
            have HR3 := Lib.hid (RV.out.kc hk3)
            have zW3 : B ≤ W3.heap.size := by have := HKC3.out.size; have := hk3.size; omega
            have IHc := Lib.hid (IH n rfl A B l d J Jx (.slice ab nb cb) bd (deep + 1) (lf' - 1) m ((ahead ++ Lib.itoa (k : Int)) ++ [46]) false xa xc x (p0 ++ xs ++ [EV]) W3 HL3.out HAB.out HBODY.out (by omega) (by omega) hN46 HFX.out HR3.out zW3 (by rw [HPS.out]; have := HPAR.out; omega) HSJ.out HSX.out HY.out hJ3)
            rw [HNM2.out] at IHc
            clear HRR hy hk3 hJ3 b3 BV LV RV a0 a1 a2 a3 a4 a5 a6 a7 a8 a9 a10 a11 a12 a13 a14 a15 f10 l0 HKR HKC3
            gi_wp2
            refine ⟨trivial, (callsIn_wide.2 IHc.out).mono ?_⟩
            rintro e W4 (⟨x', ps', xa', xc', ys, hi4, rfl, hj4, hk4, hr4, hf4, he4, hp4⟩ | ⟨er, ys, hne, hi4, rfl, hj4, y, zs, hys, hye⟩)
            · have b4 := HB3.out.kc hk4
              have gV := (GB.refl W4 S).set 15 (.bool true)
              have zW4 : S < W4.heap.size := b4.lt
              have HRV := Lib.hid (hr4.gb gV b4 (by decide) (by omega))
              have HSV := Lib.hid ((HR3.out.kc hk4).gb gV b4 (by decide) (by omega))
              have EQ := Lib.hid (sEqual_any HRV.out.1 HSV.out.1)
              have HB4 := Lib.hid b4
              have HGV := Lib.hid gV
              have HKC4 := Lib.hid ((HK3.out.trans hk4).far gV (by have := HKC.out.size; omega))
              have HKI4 := Lib.hid (KI.gb gV b4 (show B ≤ S by omega))
              have HJ4 := Lib.hid hj4
              have HI4 := Lib.hid hi4
              have HE4 := Lib.hid he4
              have HP4 := Lib.hid hp4
              have f15 := b4.frozen 15
              have f14 := b4.frozen 14
              obtain ⟨a0, a1, a2, a3, a4, a5, a6, a7, a8, a9, a10, a11, a12, a13, a14, a15⟩ := sixteen b4
              by_cases hxx : x' = x
              · subst hxx
                rw [decide_eq_true rfl] at EQ
                clear IHc y3 j13 ADD gV b4 hj4 hi4 he4 hp4 hk4 hr4 hf4
                gi_wp2
                refine ⟨trivial, (callsIn_wide.2 EQ.out).mono ?_⟩
                rintro e w' ⟨rfl, nq, rfl⟩
                obtain ⟨E2, hE2⟩ : ∃ EV : EvV, EV = ⟨k, stepA ⟨13, I, O, Z, T, P, C, H⟩ (.slice ab nb cb) (.slice xa x'.length xc) (.slice xa x'.length xc) (.slice none 0 0) FB NM 0 true, ⟨0, x', []⟩⟩ := ⟨_, rfl⟩
                have xq : Ext (W4.setCell ⟨S, 15, none⟩ (.bool true)) ((W4.setCell ⟨S, 15, none⟩ (.bool true)).drewN nq) := (Ext.refl _).drewN nq
                have hat : AtEv B E2 ((W4.setCell ⟨S, 15, none⟩ (.bool true)).drewN nq) := by
                  rw [hE2]
                  exact ⟨_, _, _, _, _, _, _, _, _, _, _, _, _, _, _, _, rfl, fun _ => ⟨rfl, HSV.out.ext xq, rfl, ParsAt.nil _ _⟩⟩
                have hpe2 : parsOf [E2] = [] := by rw [hE2]; simp [parsOf]
                have hyy := HY.out (p0 ++ xs ++ [EV] ++ ys) E2 _ (by unfold PreEv; rw [parsOf_app, hpe2, List.append_nil]; have := HP4.out; omega) hat (HSJ.out _ _ _ HJ4.out (HKI4.out.trans (KI.ext xq)))
                rw [hE2] at hyy
                obtain ⟨fn, tmps, assign, body, hy, hR⟩ := hyy
                dsimp only [encEv, stepA] at hy
                have HRR := Lib.hid hR
                have HE2 := Lib.hid hE2
                have HPE2 := Lib.hid hpe2
                have HXQ := Lib.hid xq
                clear EQ hat hpe2 hR hE2 xq
                gi_wp2
                refine HRR.out.mono ?_
                rintro e W5 (⟨hgo, rfl, hJ5, hk5⟩ | ⟨hgo, _⟩)
                · rw [← HE2.out] at hJ5
                  have b5 := (((HB4.out.set_ 15 (.bool true)).ext HXQ.out).kc hk5)
                  have j10 := b5.cells 10 (show _ = some (.slice xa x'.length xc) from rfl)
                  have j14 := b5.cells 14 (show _ = some (.int .i64 0) from rfl)
                  have HNEW : Hid (∃ (k' lf'' : Nat) (xx : List Int) (pp : List ParamP) (xa' : Option Addr) (xc' : Nat) (xs' : List EvV), k' ≤ L.length ∧ Value.int .i64 ((k : Int) + 1) = .int .i64 k' ∧ Value.slice xa x'.length xc = .slice xa' xx.length xc' ∧ inferS first ahead 0 s (L.take k') = .ok xx pp ∧ EvOk s xx pp xs' ∧ J (p0 ++ xs') W5 ∧ KC B W W5 ∧ RowS B W5 (.slice xa' xx.length xc') xx ∧ fullS xx = true ∧ goodS deep lf'' (L.drop k') = some l' ∧ lf'' ≤ 64 ∧ (parsOf (p0 ++ xs')).length + 4 * lf'' ≤ 1000 ∧ B ≤ W5.heap.size) := Lib.hid ⟨k + 1, m, x', ps ++ ps', xa, xc, xs ++ ([EV] ++ ys ++ [E2]), by omega, by go_num, rfl, by rw [infer_take hlt HIN.out, HFB.out, HJV.out, HI4.out]; simp, HEV.out.app (by
                      have e1 : EvOk x' x' [] [EV] := ⟨by intro e he; rw [List.mem_singleton.1 he, HEV2.out], by rw [HEV2.out]; simp [lastOut], HPE.out⟩
                      have e2 : EvOk x' x' [] [E2] := ⟨by intro e he; rw [List.mem_singleton.1 he, HE2.out], by rw [HE2.out]; simp [lastOut], HPE2.out⟩
                      have e3 := (e1.app HE4.out).app e2
                      simpa using e3), by simpa [List.append_assoc] using hJ5, (HKC4.out.trans (KC.ext HXQ.out)).trans hk5, (HSV.out.ext HXQ.out).kc hk5, HFX.out, HM2.out, hml, by
                      have h := HP4.out
                      simp only [parsOf_app, List.length_append, HPE.out, HPE2.out, List.length_nil] at h ⊢
                      omega, by have := HKC4.out.size; have := hk5.size; simp at this; omega⟩
                  clear HRR hy hk5 hJ5 b5 hgo
                  gi_wp2
                  exact ⟨HNEW.out, by simp [intOf]; omega⟩
                · simp [goEv] at hgo
              · rw [decide_eq_false hxx] at EQ
                have HXX := Lib.hid hxx
                clear IHc y3 j13 ADD gV b4 hj4 hi4 he4 hp4 hk4 hr4 hf4 hxx
                gi_wp2
                refine ⟨trivial, (callsIn_wide.2 EQ.out).mono ?_⟩
                rintro e w' ⟨rfl, nq, rfl⟩
                obtain ⟨E2, hE2⟩ : ∃ EV : EvV, EV = ⟨k, stepA ⟨13, I, O, Z, T, P, C, H⟩ (.slice ab nb cb) (.slice xa x.length xc) (.slice xa x.length xc) (.slice none 0 0) FB NM 2 true, ⟨2, x, []⟩⟩ := ⟨_, rfl⟩
                have xq : Ext (W4.setCell ⟨S, 15, none⟩ (.bool true)) ((W4.setCell ⟨S, 15, none⟩ (.bool true)).drewN nq) := (Ext.refl _).drewN nq
                have bq := ((HB4.out.set_ 15 (.bool true)).ext xq)
                have gq := (GB.refl ((W4.setCell ⟨S, 15, none⟩ (.bool true)).drewN nq) S).set 14 (.int .i64 2)
                have hat : AtEv B E2 (((W4.setCell ⟨S, 15, none⟩ (.bool true)).drewN nq).setCell ⟨S, 14, none⟩ (.int .i64 2)) := by
                  rw [hE2]
                  exact ⟨_, _, _, _, _, _, _, _, _, _, _, _, _, _, _, _, rfl, fun h => absurd h (show (2 : Int) ≠ 0 by decide)⟩
                have hpe2 : parsOf [E2] = [] := by rw [hE2]; simp [parsOf]
                have hyy := HY.out (p0 ++ xs ++ [EV] ++ ys) E2 _ (by unfold PreEv; rw [parsOf_app, hpe2, List.append_nil]; have := HP4.out; omega) hat (HSJ.out _ _ _ HJ4.out ((HKI4.out.trans (KI.ext xq)).trans (KI.gb gq bq (show B ≤ S by omega))))
                rw [hE2] at hyy
                obtain ⟨fn, tmps, assign, body, hy, hR⟩ := hyy
                dsimp only [encEv, stepA] at hy
                have HRR := Lib.hid hR
                have HE2 := Lib.hid hE2
                have HST : Hid (inferS first ahead 0 s L = .bad 2) := Lib.hid (infer_stop hlt HIN.out (by rw [HFB.out, HJV.out, HI4.out]; simp [HXX.out]))
                clear EQ hat hpe2 hR hE2 xq bq gq
                gi_wp2
                refine HRR.out.mono ?_
                rintro e W5 (⟨hgo, _⟩ | ⟨hgo, rfl, hJ5⟩)
                · simp [goEv] at hgo
                · rw [← HE2.out] at hJ5
                  have HJ5 := Lib.hid hJ5
                  clear HRR hy hJ5 hgo
                  gi_wp2
                  go_ret2
                  exact .inr ⟨2, xs ++ ([EV] ++ ys ++ [E2]), by decide, HST.out, rfl, by simpa [List.append_assoc] using HJ5.out, E2, xs ++ ([EV] ++ ys), by simp [List.append_assoc], by rw [HE2.out]⟩
            · have HST : Hid (inferS first ahead 0 s L = .bad er) := Lib.hid (infer_stop hlt HIN.out (by rw [HFB.out, HJV.out, hi4]))
              have HJ4 := Lib.hid hj4
              have HYS := Lib.hid hys
              have HNE := Lib.hid hne
              have HYE := Lib.hid hye
              clear IHc hj4 hi4 hys hne hye y3 j13 ADD
              gi_wp2
              go_ret2
              exact .inr ⟨er, xs ++ ([EV] ++ ys), HNE.out, HST.out, rfl, by simpa [List.append_assoc] using HJ4.out, y, xs ++ ([EV] ++ zs), by rw [HYS.out]; simp [List.append_assoc], HYE.out⟩
          · simp [goEv] at hgo
        · have t13 : (K == 13) = false := by simp [h13]
          obtain ⟨m, hm1, hm2⟩ : ∃ m, (L[k]).good deep lf' = some m ∧ goodS deep m (L.drop (k + 1)) = some l' := by
            rcases GL.out with h | h
            · have h2 := HGK.out
              rw [DR.out, goodS, h] at h2
              exact ⟨_, h, h2⟩
            · exact h
          rw [EL.out] at hm1
          obtain ⟨lok, hlm⟩ := good_plain hm1 h13
          obtain ⟨x3, -, -, -⟩ := fullS_dims HFX.out
          have DA : DoesAt B wc S ⟨K, I, O, Z, T, P, C, H⟩ (.slice ab nb cb) (.slice xa x.length xc) FB (ahead ++ Lib.itoa (k : Int)) x := ⟨by rw [HNM.out]; exact hblk, HR.out, by omega, HFX.out, by
            rw [List.length_append, itoa_nat]
            have := dec_len 1 k (by omega)
            omega⟩
          have JG := Lib.hid (judge_any DA lok (fun o ps h => ⟨(does_len h x3).1, by have := (does_len h x3).2; omega⟩))
          have HJV : Hid ((L[k]).infer FB (ahead ++ Lib.itoa (k : Int)) x = judgeS ⟨K, I, O, Z, T, P, C, H⟩ x FB (ahead ++ Lib.itoa (k : Int))) := Lib.hid (by rw [EL.out]; exact infer_plain h13)
          have HM2 := Lib.hid hm2
          have H13 := Lib.hid h13
          clear hm1 hm2 h13 lok DA GL
          cases hjv : judgeS ⟨K, I, O, Z, T, P, C, H⟩ x FB (ahead ++ Lib.itoa (k : Int)) with
          | ok ot qs => as_aux_lemma =>
            rw [hjv] at JG HJV
            have HOK := Lib.hid (judge_ok hjv x3)
            clear hjv
            refine hK _ _ ?_
            clear hK
            gi_wp2
            refine ⟨trivial, (callsIn_wide.2 JG.out).mono ?_⟩
            rintro e w1 ⟨rfl, g1, oa, oc, pa, pc, b1, r1, p1⟩
            rw [HNM.out] at b1
            obtain ⟨EV, hEV⟩ : ∃ EV : EvV, EV = ⟨k, stepA ⟨K, I, O, Z, T, P, C, H⟩ (.slice ab nb cb) (.slice xa x.length xc) (.slice oa ot.length oc) (.slice pa qs.length pc) FB NM 0 false, ⟨0, ot, qs⟩⟩ := ⟨_, rfl⟩
            have zS1 : S < w1.heap.size := b1.lt
            have gv := g1.set 14 (.int .i64 0)
            have bv : Blk (w1.setCell ⟨S, 14, none⟩ (.int .i64 0)) S 71 (stepA ⟨K, I, O, Z, T, P, C, H⟩ (.slice ab nb cb) (.slice xa x.length xc) (.slice oa ot.length oc) (.slice pa qs.length pc) FB NM 0 false) := b1.set_ 14 _
            have rv := r1.gb ((GB.refl w1 S).set 14 (.int .i64 0)) b1 (by decide) (by omega)
            have pv : ParsAt B (w1.setCell ⟨S, 14, none⟩ (.int .i64 0)) (.slice pa qs.length pc) qs := by
              obtain ⟨rs, e1, e2, e3⟩ := p1
              exact ParsAt.base (base := wc.heap.size) ⟨rs, e1, ownsRow_setCell_below e2 zS _, fun q hq => ownsRow_setCell_below (e3 q hq) zS _⟩ (by omega)
            have hat : AtEv B EV (w1.setCell ⟨S, 14, none⟩ (.int .i64 0)) := by
              rw [hEV]
              exact ⟨_, _, _, _, _, _, _, _, _, _, _, _, _, _, _, _, rfl, fun _ => ⟨rfl, rv, rfl, pv⟩⟩
            have hps : (parsOf (p0 ++ xs ++ [EV])).length + 4 * m ≤ 1000 := by
              rw [parsOf_app, List.length_append, show parsOf [EV] = qs by rw [hEV]; simp [parsOf]]
              have := HOK.out.2
              have := HPAR.out
              omega
            have hki : KI B wr (w1.setCell ⟨S, 14, none⟩ (.int .i64 0)) := (KI.ext hxc).trans (KI.gb gv hblk (by omega))
            have hkc : KC B W (w1.setCell ⟨S, 14, none⟩ (.int .i64 0)) := (HKC.out.trans (KC.ext hxc)).far gv (by have := HKC.out.size; omega)
            have hyy := HY.out (p0 ++ xs) EV _ (by unfold PreEv; omega) hat (HSJ.out _ _ _ HJ.out hki)
            rw [hEV] at hyy
            obtain ⟨fn, tmps, assign, body, hy, hR⟩ := hyy
            dsimp only [encEv, stepA] at hy
            have HRR := Lib.hid hR
            have HEV2 := Lib.hid hEV
            have BV := Lib.hid bv
            have RV := Lib.hid rv
            have HPS := Lib.hid hps
            have HKC3 := Lib.hid hkc
            obtain ⟨a0, a1, a2, a3, a4, a5, a6, a7, a8, a9, a10, a11, a12, a13, a14, a15⟩ := sixteen b1
            have f14 := b1.frozen 14
            clear JG l0 g1 b1 r1 p1 gv bv rv pv hat hps hki hkc hR hEV
            gi_wp2
            refine HRR.out.mono ?_
            rintro e W3 (⟨hgo, rfl, hJ3, hk3⟩ | ⟨hgo, _⟩)
            · rw [← HEV2.out] at hJ3
              have b3 := BV.out.kc hk3
              have j10 := b3.cells 10 (show _ = some (.slice oa ot.length oc) from rfl)
              have j14 := b3.cells 14 (show _ = some (.int .i64 0) from rfl)
              have HNEW : Hid (∃ (k' lf'' : Nat) (x' : List Int) (ps' : List ParamP) (xa' : Option Addr) (xc' : Nat) (xs' : List EvV), k' ≤ L.length ∧ Value.int .i64 ((k : Int) + 1) = .int .i64 k' ∧ Value.slice oa ot.length oc = .slice xa' x'.length xc' ∧ inferS first ahead 0 s (L.take k') = .ok x' ps' ∧ EvOk s x' ps' xs' ∧ J (p0 ++ xs') W3 ∧ KC B W W3 ∧ RowS B W3 (.slice xa' x'.length xc') x' ∧ fullS x' = true ∧ goodS deep lf'' (L.drop k') = some l' ∧ lf'' ≤ 64 ∧ (parsOf (p0 ++ xs')).length + 4 * lf'' ≤ 1000 ∧ B ≤ W3.heap.size) := Lib.hid ⟨k + 1, m, ot, ps ++ qs, oa, oc, xs ++ [EV], by omega, by go_num, rfl, by rw [infer_take hlt HIN.out, HFB.out, HJV.out], HEV.out.app ⟨by intro e he; rw [List.mem_singleton.1 he, HEV2.out], by rw [HEV2.out]; simp [lastOut], by rw [HEV2.out]; simp [parsOf]⟩, by rw [← List.append_assoc]; exact hJ3, HKC3.out.trans hk3, RV.out.kc hk3, HOK.out.1, HM2.out, by omega, by rw [← List.append_assoc]; exact HPS.out, by have := HKC3.out.size; have := hk3.size; omega⟩
              clear HRR hy hk3 hJ3 b3 BV hgo
              gi_wp2
              exact ⟨HNEW.out, by simp [intOf]; omega⟩
            · simp [goEv] at hgo
          | bad er => as_aux_lemma =>
            rw [hjv] at JG HJV
            have HNE := Lib.hid (judge_bad hjv)
            clear hjv
            refine hK _ _ ?_
            clear hK
            gi_wp2
            refine ⟨trivial, (callsIn_wide.2 JG.out).mono ?_⟩
            rintro e w1 ⟨rfl, g1, oa, oN, oc, pa, pn, pc, b1⟩
            rw [HNM.out] at b1
            obtain ⟨EV, hEV⟩ : ∃ EV : EvV, EV = ⟨k, stepA ⟨K, I, O, Z, T, P, C, H⟩ (.slice ab nb cb) (.slice xa x.length xc) (.slice oa oN oc) (.slice pa pn pc) FB NM er false, ⟨er, x, []⟩⟩ := ⟨_, rfl⟩
            have zS1 : S < w1.heap.size := b1.lt
            have gv := g1.set 14 (.int .i64 er)
            have hat : AtEv B EV (w1.setCell ⟨S, 14, none⟩ (.int .i64 er)) := by
              rw [hEV]
              exact ⟨_, _, _, _, _, _, _, _, _, _, _, _, _, _, _, _, rfl, fun h => absurd h HNE.out⟩
            have hps : (parsOf (p0 ++ xs ++ [EV])).length ≤ 1000 := by
              rw [parsOf_app, List.length_append, show parsOf [EV] = [] by rw [hEV]; simp [parsOf]]
              have := HPAR.out
              simp only [List.length_nil]
              omega
            have hki : KI B wr (w1.setCell ⟨S, 14, none⟩ (.int .i64 er)) := (KI.ext hxc).trans (KI.gb gv hblk (by omega))
            have hyy := HY.out (p0 ++ xs) EV _ (by unfold PreEv; exact hps) hat (HSJ.out _ _ _ HJ.out hki)
            rw [hEV] at hyy
            obtain ⟨fn, tmps, assign, body, hy, hR⟩ := hyy
            dsimp only [encEv, stepA] at hy
            have HRR := Lib.hid hR
            have HEV2 := Lib.hid hEV
            have HST : Hid (inferS first ahead 0 s L = .bad er) := Lib.hid (infer_stop hlt HIN.out (by rw [HFB.out, HJV.out]))
            obtain ⟨a0, a1, a2, a3, a4, a5, a6, a7, a8, a9, a10, a11, a12, a13, a14, a15⟩ := sixteen b1
            have f14 := b1.frozen 14
            clear JG l0 g1 b1 gv hat hps hki hR hEV
            gi_wp2
            refine HRR.out.mono ?_
            rintro e W3 (⟨hgo, _⟩ | ⟨hgo, rfl, hJ3⟩)
            · have h : er = 0 := by simpa [goEv] using hgo
              exact absurd h HNE.out
            · rw [← HEV2.out] at hJ3
              have HJ3 := Lib.hid hJ3
              clear HRR hy hJ3 hgo
              gi_wp2
              go_ret2
              exact .inr ⟨er, xs ++ [EV], HNE.out, HST.out, rfl, by rw [← List.append_assoc]; exact HJ3.out, EV, xs, rfl, by rw [HEV2.out]⟩
    · obtain rfl : k = L.length := by omega
      rw [List.take_of_length_le (Nat.le_refl _)] at hinf
      have HI2 := Lib.hid hinf
      have HEND : Hid ((parsOf (p0 ++ xs)).length + 4 * l' ≤ 1000) := Lib.hid (by
        have h := hgk
        rw [List.drop_eq_nil_of_le (Nat.le_refl _), goodS] at h
        cases h
        exact hpar)
      clear hinf hev hj hkc hrow hfull hgk hpar HIN
      gi_wp2
      go_ret2
      exact .inl ⟨x, ps, xa, xc, xs, HI2.out, rfl, HJ.out, HKC.out, HROW.out, HFX.out, HEV.out, HEND.out⟩
theorem walk_any : ∀ n, WalkOk n
  | 0 => walk_step 0 (fun m h => by cases h)
  | n + 1 => walk_step (n + 1) (fun m h => by cases h; exact walk_any n)
end Go.Proofs.YtgokenbojppnhaaDoor
