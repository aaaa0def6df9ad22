/- (*ratchetref27.walk).layer of a residual; (*ratchetref27.walk).body. (*ratchetref27.walk).body. ratchetref27.Infer. -/
import Derived.Test.YtgokenbojppnhaaDoorRefI2
import Derived.Test.YtgokenbojppnhaaDoorNm2
import Derived.BigFrame
namespace Go.Proofs.YtgokenbojppnhaaDoor
open Go.RowKit
attribute [local go_sem ↓] Go.wp_at_zero Go.wp_at_succ
/-- What a list of layers promises. -/
def BodyR (B S : Nat) (w : World) (ps : List ParamP) (first : Bool) (t : Told) (e : Ending) (w' : World) : Prop :=
  ∃ (xa : Option Addr) (xs : List Int) (xc : Nat) (bad : Int) (qs : List ParamP) (fl : Bool), e = .returned (.slice xa xs.length xc) ∧ RowS S w' (.slice xa xs.length xc) xs ∧ WalkAt B S w' fl qs bad ∧ Chr B S w w' ∧ xs.length ≤ 1000 ∧ (first = false → fl = false) ∧
    match t with
    | .bad er => bad = er
    | .ok o ns => xs = o ∧ qs = ps ++ ns ∧ bad = 0
def RBodyOk (n : Nat) : Prop := ∀ (A : Nat → Prop) (B S : Nat) (v : Value) (L : List Lay) (deep lf l' : Nat) (ahead : Bs) (AH : ByteArray) (first : Bool) (ia : Option Addr) (ic : Nat) (s : List Int) (ps : List ParamP) (w : World),
  LaysAt A w n v L → (∀ b, A b → b < S) → goodS deep lf L = some l' → deep ≤ 4 → lf ≤ 64 → ahead.length ≤ 10 * deep → ba ahead = AH → ps.length + 4 * lf ≤ 300 → LayIn B S w (.slice ia s.length ic) s ps ahead first →
  Calls Tryd.prog 30 #[.pointer (some ⟨S, 0, none⟩), v, .slice ia s.length ic, .string AH] w fun e w' => BodyR B S w ps first (inferS first ahead 0 s L) e w'
set_option maxHeartbeats 8000000 in
set_option maxRecDepth 100000 in
theorem rl_res {B S : Nat} {w : World} {I O Z T P C H : Int} {ba' ia : Option Addr} {bn bc ic : Nat} {ps : List ParamP} {nm : Bs} {N : ByteArray} {first : Bool} {s : List Int} {bd : List Lay} {A : Nat → Prop} {m deep lf l' : Nat} (h : LayIn B S w (.slice ia s.length ic) s ps nm first) (hN : ba nm = N) (IH : RBodyOk m) (hb : LaysAt A w m (.slice ba' bn bc) bd) (hA : ∀ b, A b → b < S) (hg : goodS (deep + 1) (lf - 1) bd = some l') (hd : deep < 4) (hlf : lf ≤ 64) (hlf1 : 1 ≤ lf) (hn0 : nm.length ≤ 10 * deep + 2) (hps : ps.length + 4 * lf ≤ 300) :
    Calls Tryd.prog 41 #[.pointer (some ⟨S, 0, none⟩), .agg #[.int .i64 13, .int .i64 I, .int .i64 O, .int .i64 Z, .int .i64 T, .int .i64 P, .int .i64 C, .int .i64 H, .slice ba' bn bc], .slice ia s.length ic, .string N] w fun e w' => LayerR B S w ps ((Lay.mk ⟨13, I, O, Z, T, P, C, H⟩ bd).infer first nm s) e w' := by
  obtain ⟨pv, hblk, -⟩ := h.walk
  have j1 := hblk.cells 1 (show _ = some (.bool first) from rfl)
  have f1 := hblk.frozen 1
  have zS := hblk.lt
  have HI := Lib.hid h
  have HN := Lib.hid hN
  clear h hblk hN
  go_enter Tryd.func41, Tryd.ntmps41
  go_upto_region 4 with (fail)
  obtain ⟨V, hV⟩ : ∃ V, V = (w.setCell ⟨S, 1, none⟩ (.bool false)).alloc (.cells #[.int .i64 13, .int .i64 I, .int .i64 O, .int .i64 Z, .int .i64 T, .int .i64 P, .int .i64 C, .int .i64 H, .slice ba' bn bc] 52) := ⟨_, rfl⟩
  rw [← hV]
  have HL : Hid (LayAt B S V (.slice ia s.length ic) s ps nm) := Lib.hid (by rw [hV]; exact (HI.out.after (Ext.refl w)).ext ((Ext.refl _).alloc _))
  have CV : Hid (Chr B S w V) := Lib.hid (by rw [hV]; exact ((Chr.ext (Ext.refl w) HI.out.base).set).trans (Chr.ext ((Ext.refl _).alloc _) (Nat.le_trans HI.out.base (KeepsWalks.setCell w _ _).size)))
  have bV : Blk V w.heap.size 52 #[.int .i64 13, .int .i64 I, .int .i64 O, .int .i64 Z, .int .i64 T, .int .i64 P, .int .i64 C, .int .i64 H, .slice ba' bn bc] := by rw [hV]; exact Blk.new27 (by simp)
  have BV := Lib.hid bV
  have l0 := bV.cells 0 rfl
  have l1 := bV.cells 1 rfl
  have l2 := bV.cells 2 rfl
  have l7 := bV.cells 7 rfl
  have zV := bV.lt
  obtain ⟨pv2, hblk⟩ := HL.out.walk.blk
  have j2 := hblk.cells 2 (show _ = some (.int .i64 0) from rfl)
  have f2 := hblk.frozen 2
  have zS2 := hblk.lt
  have HR := Lib.hid HL.out.row
  have hwS : w.heap.size ≠ S := by omega
  clear hV hblk bV HI j1 f1
  have hdim := HL.out.dim
  have hd3 := (fullS_dims hdim).1
  have hB0 := HL.out.base
  have hS0 := HL.out.low
  obtain ⟨M, hM⟩ : ∃ M, ba (nm ++ [46]) = M := ⟨_, rfl⟩
  have sN : N.size = nm.length := by rw [← HN.out]; exact ba_size nm
  have aM := add_ba (A := N) (B := ⟨#[46]⟩) (C := M) (by rw [← HN.out, ← hM, ← ba_app]; rfl) (by rw [sN]; show nm.length + 1 ≤ _; omega)
  have l8 := BV.out.cells 8 rfl
  have BC := Lib.hid (IH A B S (.slice ba' bn bc) bd (deep + 1) (lf - 1) l' (nm ++ [46]) M false ia ic s ps V (hb.chr CV.out hA (by omega)) hA hg (by omega) (by omega) (by simp; omega) hM (by omega) ⟨HL.out.walk, HL.out.row, hdim, by simp; omega, HL.out.few, hS0, hB0⟩)
  have IB := Lib.hid (infer_body (f := ⟨13, I, O, Z, T, P, C, H⟩) (b := bd) (first := first) (nm := nm) (s := s) rfl)
  have NE := Lib.hid (fun er (h : inferS false (nm ++ [46]) 0 s bd = .bad er) => inferS_ne bd h)
  clear hb hg IH hM sN hn0 hps
  obtain ⟨TT, hTT⟩ : ∃ TT, inferS false (nm ++ [46]) 0 s bd = TT := ⟨_, rfl⟩
  rw [hTT] at BC IB NE
  clear hTT
  go_wp2_with fail
  refine BC.out.mono ?_
  rintro e w1 ⟨xa, xs, xc, bad, qs, fl, rfl, hr, hw, hc, hlen, hfl, ht⟩
  obtain rfl := hfl rfl
  have HR1 := Lib.hid hr
  have HW1 := Lib.hid hw
  have HC1 := Lib.hid hc
  obtain ⟨pv6, hb6⟩ := hw.blk
  have k2 := hb6.cells 2 (show _ = some (.int .i64 bad) from rfl)
  have g2 := hb6.frozen 2
  have zk := hb6.lt
  obtain ⟨pv7, hb7⟩ := HL.out.walk.blk
  have RW1 := Lib.hid (HR.out.chr hc (by omega) hb7 (by decide))
  have hzc := hc.size
  clear hr hw hc hb6 hb7 hfl BC l0 l1 l2 l7 l8 j2 f2
  cases TT with
  | bad er =>
    obtain rfl : bad = er := ht
    have hne := NE.out _ rfl
    have tb : (bad == 0) = false := by simpa using hne
    have R4 := Lib.hid RW1.out.1
    clear hne
    go_wp2_with fail
    refine (copyN_any R4.out (by omega)).mono ?_
    rintro e v5 ⟨xv, rfl, x5, o5⟩
    obtain ⟨p5, q5, rfl⟩ := own_form2 o5
    have O5 := Lib.hid o5
    have X5 := Lib.hid x5
    clear x5 o5
    go_wp2
    go_ret
    rw [IB.out]
    exact ⟨p5, s, q5, bad, qs, rfl, RowS.of_own O5.out, HW1.out.ext X5.out, (CV.out.trans HC1.out).trans (Chr.ext X5.out (by omega)), by omega, .inl rfl⟩
  | ok o ns =>
    obtain ⟨rfl, rfl, rfl⟩ := ht
    have EQ := Lib.hid (eqNumbers_any HR1.out.1 RW1.out.1)
    by_cases hxs : xs = s
    · have tq : decide (xs = s) = true := by simpa using hxs
      rw [tq] at EQ
      have HXS := Lib.hid hxs
      clear hxs tq
      go_wp2_with (go_at_call 12; refine EQ.out.mono ?_; rintro e w' ⟨rfl, nq, rfl⟩; clear EQ)
      refine (copyN_any (RW1.out.1.ext ((Ext.refl w1).drewN nq)) (by omega)).mono ?_
      rintro e v5 ⟨xv, rfl, x5, o5⟩
      obtain ⟨p5, q5, rfl⟩ := own_form2 o5
      have O5 := Lib.hid o5
      have X5 := Lib.hid (((Ext.refl w1).drewN nq).tr x5)
      clear x5 o5
      go_wp2
      go_ret
      rw [IB.out]
      simp only
      rw [if_pos HXS.out]
      exact ⟨p5, s, q5, 0, _, rfl, RowS.of_own O5.out, HW1.out.ext X5.out, (CV.out.trans HC1.out).trans (Chr.ext X5.out (by omega)), by omega, rfl, rfl, rfl⟩
    · have tq : decide (xs = s) = false := by simpa using hxs
      rw [tq] at EQ
      have HXS := Lib.hid hxs
      clear hxs tq
      go_wp2_with (go_at_call 12; refine EQ.out.mono ?_; rintro e w' ⟨rfl, nq, rfl⟩; clear EQ)
      obtain ⟨W2, hW2⟩ : ∃ W2, W2 = (w1.drewN nq).setCell ⟨S, 2, none⟩ (.int .i64 2) := ⟨_, rfl⟩
      rw [← hW2]
      obtain ⟨pv8, hb8, hp8⟩ := HW1.out
      have hC2 : Chr B S w1 W2 := by rw [hW2]; exact (Chr.ext ((Ext.refl w1).drewN nq) (by omega)).set
      have HW2 : Hid (WalkAt B S W2 false (ps ++ ns) 2) := Lib.hid (by rw [hW2]; exact ⟨pv8, (hb8.ext ((Ext.refl _).drewN nq)).set_ 2 _, (hp8.ext ((Ext.refl _).drewN nq)).below hS0⟩)
      have R4 := Lib.hid (RW1.out.chr hC2 (by omega) hb8 (by decide)).1
      have C2 := Lib.hid hC2
      have hzC2 := hC2.size
      clear hW2 hb8 hp8 hC2
      refine (copyN_any R4.out (by omega)).mono ?_
      rintro e v5 ⟨xv, rfl, x5, o5⟩
      obtain ⟨p5, q5, rfl⟩ := own_form2 o5
      have O5 := Lib.hid o5
      have X5 := Lib.hid x5
      clear x5 o5
      go_wp2
      go_ret
      rw [IB.out]
      simp only
      rw [if_neg HXS.out]
      exact ⟨p5, s, q5, 2, _, rfl, RowS.of_own O5.out, HW2.out.ext X5.out, (CV.out.trans (HC1.out.trans C2.out)).trans (Chr.ext X5.out (by omega)), by omega, .inl rfl⟩
end Go.Proofs.YtgokenbojppnhaaDoor
namespace Go.Proofs.YtgokenbojppnhaaDoor
open Go.RowKit
attribute [local go_sem ↓] Go.wp_at_zero Go.wp_at_succ
mutual
theorem infer_fc : ∀ (l : Lay) {deep left l' : Nat} {first : Bool} {nm : Bs} {s x : List Int} {ps : List ParamP}, l.good deep left = some l' → fullS s = true → l.infer first nm s = .ok x ps → fullS x = true ∧ ps.length + 4 * l' ≤ 4 * left
  | .mk f b, deep, left, l', first, nm, s, x, ps, hg, hs, h => by
    by_cases h13 : f.kind = 13
    · obtain ⟨g1, g2, g3⟩ := good_body hg h13
      rw [infer_body h13] at h
      cases hb : inferS false (nm ++ [46]) 0 s b with
      | bad e => rw [hb] at h; cases h
      | ok y qs =>
        rw [hb] at h
        simp only at h
        split at h
        · cases h
          have := inferS_fc b g2 hs hb
          exact ⟨hs, by omega⟩
        · cases h
    · obtain ⟨-, e⟩ := good_plain hg h13
      rw [infer_plain h13] at h
      obtain ⟨a, c⟩ := judge_ok h (fullS_dims hs).1
      exact ⟨a, by omega⟩
theorem inferS_fc : ∀ (L : List Lay) {deep left l' : Nat} {first : Bool} {ah : Bs} {k : Nat} {s x : List Int} {ps : List ParamP}, goodS deep left L = some l' → fullS s = true → inferS first ah k s L = .ok x ps → fullS x = true ∧ ps.length + 4 * l' ≤ 4 * left
  | [], deep, left, l', first, ah, k, s, x, ps, hg, hs, h => by
    simp [inferS] at h
    simp [goodS] at hg
    obtain ⟨rfl, rfl⟩ := h
    subst hg
    exact ⟨hs, by simp⟩
  | l :: ls, deep, left, l', first, ah, k, s, x, ps, hg, hs, h => by
    rw [goodS] at hg
    cases hm : l.good deep left with
    | none => rw [hm] at hg; cases hg
    | some m =>
      rw [hm] at hg
      simp only at hg
      rw [inferS] at h
      cases hb : l.infer first (ah ++ Lib.itoa (k : Int)) s with
      | bad e => rw [hb] at h; cases h
      | ok y qs =>
        rw [hb] at h
        simp only at h
        cases hc : inferS false ah (k + 1) y ls with
        | bad e => rw [hc] at h; cases h
        | ok z rs =>
          rw [hc] at h
          cases h
          obtain ⟨f1, c1⟩ := infer_fc l hm hs hb
          obtain ⟨f2, c2⟩ := inferS_fc ls hg f1 hc
          exact ⟨f2, by rw [List.length_append]; omega⟩
end
/-- Any layer, in a list that may be. -/
theorem rlayer_any {B S : Nat} {w : World} {K I O Z T P C H : Int} {ba' ia : Option Addr} {bn bc ic : Nat} {ps : List ParamP} {nm : Bs} {N : ByteArray} {first : Bool} {s : List Int} {bd : List Lay} {A : Nat → Prop} {m deep lf l' : Nat} (h : LayIn B S w (.slice ia s.length ic) s ps nm first) (hN : ba nm = N) (IH : RBodyOk m) (hb : LaysAt A w m (.slice ba' bn bc) bd) (hA : ∀ b, A b → b < S) (hg : (Lay.mk ⟨K, I, O, Z, T, P, C, H⟩ bd).good deep lf = some l') (hlf : lf ≤ 64) (hn0 : nm.length ≤ 10 * deep + 2) (hps : ps.length + 4 * lf ≤ 300) :
    Calls Tryd.prog 41 #[.pointer (some ⟨S, 0, none⟩), .agg #[.int .i64 K, .int .i64 I, .int .i64 O, .int .i64 Z, .int .i64 T, .int .i64 P, .int .i64 C, .int .i64 H, .slice ba' bn bc], .slice ia s.length ic, .string N] w fun e w' => LayerR B S w ps ((Lay.mk ⟨K, I, O, Z, T, P, C, H⟩ bd).infer first nm s) e w' := by
  by_cases h13 : K = 13
  · subst h13
    obtain ⟨g1, g2, g3⟩ := good_body hg rfl
    exact rl_res h hN IH hb hA g2 g1 hlf g3 hn0 hps
  · obtain ⟨g1, -⟩ := good_plain hg h13
    rw [infer_plain h13]
    exact (rplain_any h hN g1 h13).mono (fun e w' hd => done_layer hd (fullS_dims h.dim).1)
/-- Where the loop over layers stands. -/
def RSt (first : Bool) (ahead : Bs) (s : List Int) (L : List Lay) (deep l' : Nat) (ps : List ParamP) (k : Nat) (x : List Int) (pp : List ParamP) (bad : Int) (fl : Bool) : Prop :=
  (bad = 0 ∧ fl = (first && decide (k = 0)) ∧ fullS x = true ∧ ∃ lf, goodS deep lf (L.drop k) = some l' ∧ lf ≤ 64 ∧ pp.length + 4 * lf ≤ 300 ∧ ∃ qs, pp = ps ++ qs ∧ inferS first ahead 0 s (L.take k) = .ok x qs) ∨ (bad ≠ 0 ∧ (first = false → fl = false) ∧ inferS first ahead 0 s L = .bad bad)
theorem RSt.fl {first : Bool} {ahead : Bs} {s : List Int} {L : List Lay} {deep l' : Nat} {ps : List ParamP} {k : Nat} {x : List Int} {pp : List ParamP} {bad : Int} {fl : Bool} (h : RSt first ahead s L deep l' ps k x pp bad fl) : first = false → fl = false := by
  rcases h with ⟨-, h, -⟩ | ⟨-, h, -⟩
  · intro e; rw [h, e]; rfl
  · exact h
theorem may_app {base : Nat} (x : List Int) (W : World) (v : Value) (n : Nat) (h : W.ownsRow base 3 1 v n ([Value.int .i64 1] ++ x.map (Value.int .i64))) : Row .i64 W v (1 :: x) := (Row.of_owns (k := .i64) (xs := 1 :: x) h).1
/-- The state behind a layer that is refused. -/
theorem RSt.stop {first : Bool} {ahead : Bs} {s : List Int} {L : List Lay} {deep l' : Nat} {ps : List ParamP} {k : Nat} {x y : List Int} {pp qs : List ParamP} {fl : Bool} {er : Int} (h : RSt first ahead s L deep l' ps k x pp 0 fl) (hk : k < L.length) (hb : (L[k]).infer (first && decide (k = 0)) (ahead ++ Lib.itoa (k : Int)) x = .bad er) (he : er ≠ 0) : RSt first ahead s L deep l' ps (k + 1) y qs er false := by
  rcases h with ⟨-, -, -, lf, -, -, -, q, -, h⟩ | ⟨h, -⟩
  · exact .inr ⟨he, fun _ => rfl, infer_stop hk h hb⟩
  · exact absurd rfl h
/-- The state behind a layer that goes. -/
theorem RSt.next {first : Bool} {ahead : Bs} {s : List Int} {L : List Lay} {deep l' : Nat} {ps : List ParamP} {k : Nat} {x y : List Int} {pp ns : List ParamP} {fl : Bool} (h : RSt first ahead s L deep l' ps k x pp 0 fl) (hk : k < L.length) (hb : (L[k]).infer (first && decide (k = 0)) (ahead ++ Lib.itoa (k : Int)) x = .ok y ns) : RSt first ahead s L deep l' ps (k + 1) y (pp ++ ns) 0 false := by
  rcases h with ⟨-, -, hf, lf, hg, hl, hp, q, hq, h⟩ | ⟨h, -⟩
  · rw [List.drop_eq_getElem_cons hk, goodS] at hg
    cases hm : (L[k]).good deep lf with
    | none => rw [hm] at hg; cases hg
    | some m =>
      rw [hm] at hg
      obtain ⟨f1, c1⟩ := infer_fc _ hm hf hb
      refine .inl ⟨rfl, by simp, f1, m, hg, by omega, by rw [List.length_append]; omega, q ++ ns, by rw [hq, List.append_assoc], ?_⟩
      rw [infer_take hk h, hb]
  · exact absurd rfl h
set_option maxHeartbeats 8000000 in
set_option maxRecDepth 100000 in
theorem rbody_step (n : Nat) (IH : ∀ m, n = m + 1 → RBodyOk m) : RBodyOk n := by
  intro A B S v L deep lf0 l' ahead AH first ia ic s ps w hly hA hg hd hlf hah hAH hps h
  obtain ⟨av, cv, rfl⟩ := hly.form
  have hlen : L.length ≤ 64 := by
    have h := hg
    rw [goods_count] at h
    split at h
    · rename_i h2; have := count_len L; omega
    · cases h
  have hd3 := (fullS_dims h.dim).1
  have hB0 := h.base
  have hS0 := h.low
  have ST0 : Hid (RSt first ahead s L deep l' ps 0 s ps 0 first) := Lib.hid (.inl ⟨rfl, by simp, h.dim, lf0, by simpa using hg, hlf, hps, [], by simp, by simp [inferS]⟩)
  have HI := Lib.hid h
  have HLY := Lib.hid hly
  have HAH := Lib.hid hAH
  have HAB := Lib.hid hA
  have sAH : AH.size = ahead.length := by rw [← hAH]; exact ba_size ahead
  clear h hly hAH hA hg hps hlf
  go_enter Tryd.func30, Tryd.ntmps30
  go_wp2_with fail
  go_loopw [2, 9] (fun s2 i wr => ∃ (k : Nat) (x : List Int) (pp : List ParamP) (xa : Option Addr) (xc : Nat) (bad : Int) (fl : Bool), k ≤ L.length ∧ i = .int .i64 k ∧ s2 = .slice xa x.length xc ∧ RowS S wr (.slice xa x.length xc) x ∧ WalkAt B S wr fl pp bad ∧ Chr B S w wr ∧ x.length ≤ 1000 ∧ RSt first ahead s L deep l' ps k x pp bad fl) (fun _ i _ => L.length - (intOf i).toNat)
  case atStart => exact ⟨0, s, ps, ia, ic, 0, first, Nat.zero_le _, rfl, rfl, HI.out.row, HI.out.walk, Chr.ext (Ext.refl w) hB0, by omega, ST0.out⟩
  case round =>
    obtain ⟨k, x, pp, xa, xc, bad, fl, hk, rfl, rfl, hrow, hw, hc, hxl, hst⟩ := hrel
    have HROW := Lib.hid hrow
    have HW := Lib.hid hw
    have HC := Lib.hid hc
    have HST := Lib.hid hst
    obtain ⟨pv, hblk⟩ := hw.blk
    have j2 := hblk.cells 2 (show _ = some (.int .i64 bad) from rfl)
    have g2 := hblk.frozen 2
    have zS := hblk.lt
    have hzr := hc.size
    clear hrow hw hc hst hblk ST0
    by_cases hbad : bad = 0
    · subst hbad
      rcases Nat.lt_or_ge k L.length with hlt | hge
      · have hkz : (k : Int) < (L.length : Int) := by omega
        cases n with
        | zero => rw [HLY.out.1] at hlt; exact absurd hlt (Nat.not_lt_zero _)
        | succ n =>
          obtain ⟨_, _, e1, -, q1⟩ := HLY.out.chr HC.out HAB.out (by omega)
          cases e1
          obtain ⟨b, o, rfl, hb, r1⟩ := q1 (by intro e; rw [e] at hlt; simp at hlt)
          obtain ⟨bv, -, t1, s1⟩ := r1 k hlt
          have hbS := HAB.out b hb
          have S1 := Lib.hid s1
          obtain ⟨f, hf⟩ : ∃ f, L[k].f = f := ⟨_, rfl⟩
          obtain ⟨bd, hbd⟩ : ∃ bd, L[k].b = bd := ⟨_, rfl⟩
          have EL := Lib.hid (show L[k] = .mk f bd by rw [← hf, ← hbd]; cases L[k]; rfl)
          rw [hf] at t1
          rw [hbd] at S1
          obtain ⟨ab, cb, rfl⟩ := S1.out.form
          have T1 := Lib.hid t1
          obtain ⟨NM, hNM⟩ : ∃ NM, ba (ahead ++ Lib.itoa (k : Int)) = NM := ⟨_, rfl⟩
          obtain ⟨DG, hDG⟩ : ∃ DG, ba (Lib.itoa (k : Int)) = DG := ⟨_, rfl⟩
          have DL : (Lib.itoa (k : Int)).length ≤ 2 := by rw [itoa_nat]; exact dec_len 1 k (by omega)
          have ADD := add_ba (A := AH) (B := DG) (C := NM) (by rw [← HAH.out, ← hNM, ← hDG, ← ba_app]) (by rw [sAH, ← hDG, ba_size]; omega)
          have FR := Lib.hid (fun u => From_ref (k : Int) u (by omega) (by omega))
          have TX := Lib.hid (fun (u : World) (z : Value) (hz : IntAt u z (k : Int) 1) => Text_pos (G := 1) hz (by omega) (by omega) (by omega) (by omega))
          rw [hDG] at TX
          obtain ⟨K, I, O, Z, T, P, C, H⟩ := f
          obtain ⟨nb, hnb⟩ : ∃ nb, bd.length = nb := ⟨_, rfl⟩
          rw [hnb] at T1 S1
          have hBr : B ≤ wr.heap.size := by omega
          have KP := Lib.hid (fun (W : World) (cw : Chr B S wr W) => (show W.cell? ⟨b, o + k * 9, none⟩ = some (.int .i64 K) ∧ W.cell? ⟨b, o + k * 9 + 1, none⟩ = some (.int .i64 I) ∧ W.cell? ⟨b, o + k * 9 + 2, none⟩ = some (.int .i64 O) ∧ W.cell? ⟨b, o + k * 9 + 3, none⟩ = some (.int .i64 Z) ∧ W.cell? ⟨b, o + k * 9 + 4, none⟩ = some (.int .i64 T) ∧ W.cell? ⟨b, o + k * 9 + 5, none⟩ = some (.int .i64 P) ∧ W.cell? ⟨b, o + k * 9 + 6, none⟩ = some (.int .i64 C) ∧ W.cell? ⟨b, o + k * 9 + 7, none⟩ = some (.int .i64 H) ∧ W.cell? ⟨b, o + k * 9 + 8, none⟩ = some (.slice ab nb cb) ∧ b < W.heap.size from by
            obtain ⟨y0, y1, y2, y3, y4, y5, y6, y7, y8⟩ := nine T1.out
            have hc : ∀ q u, wr.cell? ⟨b, q, none⟩ = some u → W.cell? ⟨b, q, none⟩ = some u := fun q u hq => by
              rw [← hq]
              exact World.cell?_of_block (cw.old b (by omega) (by omega))
            exact ⟨hc _ _ y0, hc _ _ y1, hc _ _ y2, hc _ _ y3, hc _ _ y4, hc _ _ y5, hc _ _ y6, hc _ _ y7, hc _ _ y8, Nat.lt_of_lt_of_le (cell_lt y0) cw.size⟩))
          obtain ⟨TT, hTT⟩ : ∃ TT, (Lay.mk ⟨K, I, O, Z, T, P, C, H⟩ bd).infer fl (ahead ++ Lib.itoa (k : Int)) x = TT := ⟨_, rfl⟩
          obtain ⟨lf1, m1, hgm, hl64, hfew, hflx, hfx⟩ : ∃ lf m, (Lay.mk ⟨K, I, O, Z, T, P, C, H⟩ bd).good deep lf = some m ∧ lf ≤ 64 ∧ pp.length + 4 * lf ≤ 300 ∧ fl = (first && decide (k = 0)) ∧ fullS x = true := by
            rcases HST.out with ⟨-, h2, h3, lf, h4, h5, h6, -⟩ | ⟨h, -⟩
            · rw [List.drop_eq_getElem_cons hlt, goodS, EL.out] at h4
              cases hm : (Lay.mk ⟨K, I, O, Z, T, P, C, H⟩ bd).good deep lf with
              | none => rw [hm] at h4; cases h4
              | some m => exact ⟨lf, m, hm, h5, h6, h2, h3⟩
            · exact absurd rfl h
          have RL := Lib.hid (fun u (xu : Ext wr u) => rlayer_any (nm := ahead ++ Lib.itoa (k : Int)) (show LayIn B S u (.slice xa x.length xc) x pp (ahead ++ Lib.itoa (k : Int)) fl from ⟨HW.out.ext xu, HROW.out.ext xu, hfx, by rw [List.length_append]; omega, by omega, hS0, Nat.le_trans hBr xu.size⟩) hNM (IH n rfl) (S1.out.ext xu) HAB.out hgm hl64 (by rw [List.length_append]; omega) hfew)
          rw [hTT] at RL
          have HTT := Lib.hid (show (L[k]).infer (first && decide (k = 0)) (ahead ++ Lib.itoa (k : Int)) x = TT by rw [EL.out, ← hflx]; exact hTT)
          have NE := Lib.hid (fun er (e : TT = .bad er) => infer_ne _ (hTT.trans e))
          have FC := Lib.hid (fun o ns (e : TT = .ok o ns) => (infer_fc _ hgm hfx (hTT.trans e)).1)
          have k0 : (0 : Int) ≤ (k : Int) := by omega
          obtain ⟨y0, y1, y2, y3, y4, y5, y6, y7, y8, zb⟩ := KP.out wr (Chr.ext (Ext.refl wr) hBr)
          clear q1 hb r1 t1 s1 T1 hf hbd hNM hDG DL hnb hgm hfew hflx hfx hTT IH HLY
          go_wp2_with fail
          go_region_held3 (fun w' => w'.cell? ⟨b, o + k * 9, none⟩ = some (.int .i64 K) ∧ w'.cell? ⟨b, o + k * 9 + 1, none⟩ = some (.int .i64 I) ∧ w'.cell? ⟨b, o + k * 9 + 2, none⟩ = some (.int .i64 O) ∧ w'.cell? ⟨b, o + k * 9 + 3, none⟩ = some (.int .i64 Z) ∧ w'.cell? ⟨b, o + k * 9 + 4, none⟩ = some (.int .i64 T) ∧ w'.cell? ⟨b, o + k * 9 + 5, none⟩ = some (.int .i64 P) ∧ w'.cell? ⟨b, o + k * 9 + 6, none⟩ = some (.int .i64 C) ∧ w'.cell? ⟨b, o + k * 9 + 7, none⟩ = some (.int .i64 H) ∧ w'.cell? ⟨b, o + k * 9 + 8, none⟩ = some (.slice ab nb cb) ∧ b < w'.heap.size)
            (exact KP.out _ (by first | with_reducible exact C3.out | exact C3.out.trans (Chr.ext ((Ext.refl _).drew) (by have := C3.out.size; omega)) | exact Chr.ext (by repeat (first | with_reducible exact Ext.refl _ | with_reducible apply Ext.drew | with_reducible apply Ext.drewN | with_reducible apply Ext.alloc | ((with_reducible refine Ext.setCell ?_ ?_ _); rotate_left; focus (first | (simp; done) | (simp; omega) | omega)) | with_reducible refine Ext.tr ?_ x1 | with_reducible refine Ext.tr ?_ x2 | with_reducible refine Ext.tr ?_ x5 | with_reducible refine Ext.tr ?_ xa | with_reducible refine Ext.tr ?_ xc | with_reducible assumption)) hBr))
            (first
              | ((go_at_call 43; refine (FR.out _).mono ?_; rintro e v1 ⟨fv, rfl, x1, hi⟩; have HFV := Lib.hid hi; have w1x : Ext wr v1 := (by repeat (first | with_reducible exact Ext.refl _ | with_reducible apply Ext.drew | with_reducible apply Ext.drewN | with_reducible apply Ext.alloc | ((with_reducible refine Ext.setCell ?_ ?_ _); rotate_left; focus (first | (simp; done) | (simp; omega) | omega)) | with_reducible refine Ext.tr ?_ x1 | with_reducible refine Ext.tr ?_ x2 | with_reducible refine Ext.tr ?_ x5 | with_reducible refine Ext.tr ?_ xa | with_reducible refine Ext.tr ?_ xc | with_reducible assumption)); obtain ⟨m0, m1, m2, m3, m4, m5, m6, m7, m8, mz⟩ := KP.out v1 (Chr.ext w1x hBr); clear FR hi))
              | ((go_at_call 42; refine (TX.out _ _ (HFV.out.ext (by repeat (first | with_reducible exact Ext.refl _ | with_reducible apply Ext.drew | with_reducible apply Ext.drewN | with_reducible apply Ext.alloc | ((with_reducible refine Ext.setCell ?_ ?_ _); rotate_left; focus (first | (simp; done) | (simp; omega) | omega)) | with_reducible refine Ext.tr ?_ x1 | with_reducible refine Ext.tr ?_ x2 | with_reducible refine Ext.tr ?_ x5 | with_reducible refine Ext.tr ?_ xa | with_reducible refine Ext.tr ?_ xc | with_reducible assumption)))).mono ?_; rintro e v2 ⟨rfl, x2⟩; have w2x : Ext wr v2 := (by repeat (first | with_reducible exact Ext.refl _ | with_reducible apply Ext.drew | with_reducible apply Ext.drewN | with_reducible apply Ext.alloc | ((with_reducible refine Ext.setCell ?_ ?_ _); rotate_left; focus (first | (simp; done) | (simp; omega) | omega)) | with_reducible refine Ext.tr ?_ x1 | with_reducible refine Ext.tr ?_ x2 | with_reducible refine Ext.tr ?_ x5 | with_reducible refine Ext.tr ?_ xa | with_reducible refine Ext.tr ?_ xc | with_reducible assumption)); obtain ⟨n0, n1, n2, n3, n4, n5, n6, n7, n8, nz⟩ := KP.out v2 (Chr.ext w2x hBr); clear TX))
              | ((go_at_call 41; refine (RL.out _ (by repeat (first | with_reducible exact Ext.refl _ | with_reducible apply Ext.drew | with_reducible apply Ext.drewN | with_reducible apply Ext.alloc | ((with_reducible refine Ext.setCell ?_ ?_ _); rotate_left; focus (first | (simp; done) | (simp; omega) | omega)) | with_reducible refine Ext.tr ?_ x1 | with_reducible refine Ext.tr ?_ x2 | with_reducible refine Ext.tr ?_ x5 | with_reducible refine Ext.tr ?_ xa | with_reducible refine Ext.tr ?_ xc | with_reducible assumption))).mono ?_; rintro e v3 ⟨ya, ys, yc, bd2, qs, rfl, hr3, hw3, hc3, hl3, ht3⟩; have C3 := Lib.hid ((Chr.ext (B := B) (S := S) (show Ext wr _ from (by repeat (first | with_reducible exact Ext.refl _ | with_reducible apply Ext.drew | with_reducible apply Ext.drewN | with_reducible apply Ext.alloc | ((with_reducible refine Ext.setCell ?_ ?_ _); rotate_left; focus (first | (simp; done) | (simp; omega) | omega)) | with_reducible refine Ext.tr ?_ x1 | with_reducible refine Ext.tr ?_ x2 | with_reducible refine Ext.tr ?_ x5 | with_reducible refine Ext.tr ?_ xa | with_reducible refine Ext.tr ?_ xc | with_reducible assumption))) hBr).trans hc3); have R3 := Lib.hid hr3; have W3 := Lib.hid hw3; have T3 := Lib.hid ht3; clear RL hr3 hw3 hc3 ht3)))
          obtain ⟨i0, hi0, hz0, hz1, hz2⟩ := info_parts cloneI_info
          obtain ⟨pv3, hb3⟩ := W3.out.blk
          have k2 := hb3.cells 2 (show _ = some (.int .i64 bd2) from rfl)
          have gk2 := hb3.frozen 2
          have z3 := hb3.lt
          have hz3 := C3.out.size
          have A1 : Hid (bd2 = 0 → fullS ys = true → ∃ ns, TT = .ok ys ns ∧ qs = pp ++ ns) := Lib.hid (fun h0 hf => by
            have t := T3.out
            cases hT : TT with
            | bad er =>
              rw [hT] at t
              rcases t with h | ⟨-, -, h⟩
              · exact absurd (h.symm.trans h0) (NE.out _ hT)
              · rw [hf] at h; cases h
            | ok o ns =>
              rw [hT] at t
              obtain ⟨rfl, rfl, -⟩ := t
              exact ⟨ns, rfl, rfl⟩)
          have A2 : Hid (bd2 = 0 → fullS ys = false → TT = .bad 5) := Lib.hid (fun h0 hf => by
            have t := T3.out
            cases hT : TT with
            | bad er =>
              rw [hT] at t
              rcases t with h | ⟨-, h, -⟩
              · exact absurd (h.symm.trans h0) (NE.out _ hT)
              · rw [h]
            | ok o ns =>
              rw [hT] at t
              obtain ⟨rfl, rfl, -⟩ := t
              rw [FC.out _ _ hT] at hf
              cases hf)
          have A3 : Hid (bd2 ≠ 0 → TT = .bad bd2) := Lib.hid (fun h0 => by
            have t := T3.out
            cases hT : TT with
            | bad er =>
              rw [hT] at t
              rcases t with h | ⟨h, -, -⟩
              · rw [h]
              · exact absurd h h0
            | ok o ns =>
              rw [hT] at t
              exact absurd t.2.2 h0)
          clear j2 g2 y0 y1 y2 y3 y4 y5 y6 y7 y8 m0 m1 m2 m3 m4 m5 m6 m7 m8 n0 n1 n2 n3 n4 n5 n6 n7 n8 hb3 T3 NE FC KP
          by_cases h0 : bd2 = 0
          · subst h0
            have MAY := Lib.hid (fun (W : World) (z : Value) (hz : Row .i64 W z (1 :: ys)) => may6_any hz)
            rw [show shp (1 :: ys) = fullS ys from rfl] at MAY
            cases hF : fullS ys with
            | true =>
              rw [hF] at MAY
              obtain ⟨ns, hT, hq⟩ := A1.out rfl hF
              have NX := Lib.hid (HST.out.next hlt (HTT.out.trans hT))
              rw [← hq] at NX
              clear hT hq hF A1 A2 A3
              go_wp2_with (at_builtin; refine (show Hid _ from ?_).out)
              refine Lib.hid ?_
              refine BigFrame.wpList_want (by kernel_rfl) (fun Kx hKx => ?_)
              refine wp_append_row (k := .i64) _ _ 24 rfl v3.heap.size 3 i0 (.int .i64 0) 8 Tryd.underlying24 hi0 hz0 hz1 hz2 rfl (rowG v3.heap.size 1) 1 [.int .i64 1] rfl (World.ownsRow_lit v3 #[.int .i64 1] 1 (Nat.le_refl _) (by unfold maxLen; omega) rfl) _ rfl ys (R3.out.1.ext ((Ext.refl v3).alloc _)) (by unfold maxLen; omega) (by omega) (by simp) ?_
              intro v' w4 hown hgrow
              have OWN := Lib.hid hown
              have X4 := Lib.hid (Ext.grown (show Ext v3 _ from (Ext.refl v3).alloc _) hgrow (fun k hk => by simp [Value.ownBlock] at hk; omega))
              refine hKx _ _ ?_
              clear hKx Kx hown hgrow
              go_wp2_with fail
              refine (MAY.out _ _ (may_app ys _ _ _ (OWN.out))).mono ?_
              rintro e w' ⟨rfl, rfl⟩
              go_wp2_with fail
              go_roundw
              case rel => exact ⟨k + 1, ys, qs, ya, yc, 0, false, by omega, by go_num, rfl, R3.out.ext X4.out, W3.out.ext X4.out, (HC.out.trans C3.out).trans (Chr.ext X4.out (by omega)), hl3, NX.out⟩
              case measure => simp [intOf]; omega
            | false =>
              rw [hF] at MAY
              have NX := Lib.hid (HST.out.stop (y := ys) (qs := qs) hlt (HTT.out.trans (A2.out rfl hF)) (by decide))
              clear hF A1 A2 A3
              go_wp2_with (at_builtin; refine (show Hid _ from ?_).out)
              refine Lib.hid ?_
              refine BigFrame.wpList_want (by kernel_rfl) (fun Kx hKx => ?_)
              refine wp_append_row (k := .i64) _ _ 24 rfl v3.heap.size 3 i0 (.int .i64 0) 8 Tryd.underlying24 hi0 hz0 hz1 hz2 rfl (rowG v3.heap.size 1) 1 [.int .i64 1] rfl (World.ownsRow_lit v3 #[.int .i64 1] 1 (Nat.le_refl _) (by unfold maxLen; omega) rfl) _ rfl ys (R3.out.1.ext ((Ext.refl v3).alloc _)) (by unfold maxLen; omega) (by omega) (by simp) ?_
              intro v' w4 hown hgrow
              have OWN := Lib.hid hown
              have X4 := Lib.hid (Ext.grown (show Ext v3 _ from (Ext.refl v3).alloc _) hgrow (fun k hk => by simp [Value.ownBlock] at hk; omega))
              refine hKx _ _ ?_
              clear hKx Kx hown hgrow
              have j2 := X4.out.cell k2
              have jz := cell_lt j2
              simp only at jz
              obtain ⟨pv4, hb4, hp4⟩ := W3.out.ext X4.out
              have gj := hb4.frozen 2
              have B4 := Lib.hid hb4
              have P4 := Lib.hid hp4
              clear k2 gk2 hb4 hp4
              go_wp2_with fail
              refine (MAY.out _ _ (may_app ys _ _ _ (OWN.out))).mono ?_
              rintro e w' ⟨rfl, rfl⟩
              go_wp2_with fail
              go_roundw
              case rel =>
                have c4 : Chr B S w (w4.setCell ⟨S, 2, none⟩ (.int .i64 5)) := ((HC.out.trans C3.out).trans (Chr.ext X4.out (by omega))).set
                refine ⟨k + 1, ys, qs, ya, yc, 5, false, by omega, by go_num, rfl, ?_, ⟨pv4, B4.out.set_ 2 _, P4.out.below hS0⟩, c4, hl3, NX.out⟩
                exact (R3.out.ext X4.out).chr ((Chr.ext (B := B) (S := S) (Ext.refl w4) (by have := X4.out.size; omega)).set) (by omega) B4.out (by decide)
              case measure => simp [intOf]; omega
          · have tb : (bd2 == 0) = false := by simpa using h0
            have NX := Lib.hid (HST.out.stop (y := ys) (qs := qs) hlt (HTT.out.trans (A3.out h0)) h0)
            clear h0 A1 A2 A3
            go_wp2_with fail
            go_roundw
            case rel => exact ⟨k + 1, ys, qs, ya, yc, bd2, false, by omega, by go_num, rfl, R3.out, W3.out, HC.out.trans C3.out, hl3, NX.out⟩
            case measure => simp [intOf]; omega
      · obtain rfl : k = L.length := by omega
        have hkz : ¬ ((L.length : Nat) : Int) < (L.length : Int) := by omega
        have RES : Hid (∃ qs, pp = ps ++ qs ∧ inferS first ahead 0 s L = .ok x qs) := Lib.hid (by
          rcases HST.out with ⟨-, -, -, lf, -, -, -, q, hq, h⟩ | ⟨h, -⟩
          · rw [List.take_of_length_le (Nat.le_refl _)] at h
            exact ⟨q, hq, h⟩
          · exact absurd rfl h)
        go_wp2
        go_ret
        obtain ⟨qs, hq, hI⟩ := RES.out
        rw [hI]
        exact ⟨xa, x, xc, 0, pp, fl, rfl, HROW.out, HW.out, HC.out, hxl, HST.out.fl, rfl, hq, rfl⟩
    · have tb : (bad == 0) = false := by simpa using hbad
      have RES : Hid (inferS first ahead 0 s L = .bad bad) := Lib.hid (by
        rcases HST.out with ⟨h, -⟩ | ⟨-, -, h⟩
        · exact absurd h hbad
        · exact h)
      clear hbad
      rcases Nat.lt_or_ge k L.length with hlt | hge
      · have hkz : (k : Int) < (L.length : Int) := by omega
        go_wp2
        go_ret
        rw [RES.out]
        exact ⟨xa, x, xc, bad, pp, fl, rfl, HROW.out, HW.out, HC.out, hxl, HST.out.fl, rfl⟩
      · have hkz : ¬ (k : Int) < (L.length : Int) := by omega
        go_wp2
        go_ret
        rw [RES.out]
        exact ⟨xa, x, xc, bad, pp, fl, rfl, HROW.out, HW.out, HC.out, hxl, HST.out.fl, rfl⟩
end Go.Proofs.YtgokenbojppnhaaDoor
namespace Go.Proofs.YtgokenbojppnhaaDoor
open Go.RowKit
attribute [local go_sem ↓] Go.wp_at_zero Go.wp_at_succ
theorem rbody_any : ∀ n, RBodyOk n
  | 0 => rbody_step 0 (fun m h => by omega)
  | n + 1 => rbody_step (n + 1) (fun m h => by cases h; exact rbody_any n)
theorem Chr.to_ext {B S : Nat} {w V W : World} (c : Chr B S V W) (x : Ext w V) (hS : w.heap.size ≤ S) (hB : w.heap.size ≤ B) : Ext w W :=
  ⟨c.os.trans x.os, c.tape.trans x.tape, c.output.trans x.output, Nat.le_trans x.size c.size, fun k hk => (c.old k (by omega) (by omega)).trans (x.block k hk)⟩
set_option maxHeartbeats 8000000 in
set_option maxRecDepth 100000 in
theorem rinfer_bad5 {A : Nat → Prop} {n : Nat} {w : World} {v : Value} {d : DefL} (h : DefAt A n w v d) (hg : goodD d = true) (hf : fullS d.input = false) :
    Calls Tryd.prog 20 #[v] w fun e w' => InferP w.heap.size w e w' (.bad 5) := by
  obtain ⟨i0, hi0, hz0, hz1, hz2⟩ := info_parts cloneI_info
  have hlen := good_in hg
  obtain ⟨l', hl'⟩ := good_layers hg
  obtain ⟨a1, c1, a2, c2, rfl, hi, hL⟩ := h.is
  have HR := Lib.hid hi
  have HLAY := Lib.hid hL
  have HA := Lib.hid h.below
  have HG := Lib.hid hl'
  have HF := Lib.hid hf
  have MAY := Lib.hid (fun (W : World) (z : Value) (hz : Row .i64 W z (1 :: d.input)) => may6_any hz)
  rw [show shp (1 :: d.input) = fullS d.input from rfl, hf] at MAY
  have HROW : Hid (RowS w.heap.size w (.slice a1 d.input.length c1) d.input) := Lib.hid ⟨hi, fun b hb => .inl (by
    obtain ⟨b', o', rfl, hc⟩ := hxc_of hi (by intro e; rw [e] at hlen; simp at hlen)
    have := cell_lt (hc 0 (by omega))
    simpa using (by cases hb; exact this))⟩
  clear h hg hf hi hL hl'
  go_enter Tryd.func20, Tryd.ntmps20
  go_upto_region 2 with (fail)
  obtain ⟨U, hU⟩ : ∃ U, U = (w.alloc (.cells #[.slice a1 d.input.length c1, .slice a2 d.layers.length c2, .int .i64 d.loss] 27)).alloc (.cells #[.slice none 0 0, .bool true, .int .i64 0] 64) := ⟨_, rfl⟩
  rw [← hU]
  have hXU : Ext w U := by rw [hU]; exact ((Ext.refl w).alloc _).alloc _
  have hBD : Blk U w.heap.size 27 #[.slice a1 d.input.length c1, .slice a2 d.layers.length c2, .int .i64 d.loss] := by rw [hU]; exact (Blk.new w _ _).alloc _
  have hBW : Blk U (w.heap.size + 1) 64 (walkA (.slice none 0 0) true 0) := by rw [hU]; exact Blk.new27 (by simp)
  have XU := Lib.hid hXU
  have BD := Lib.hid hBD
  have BW := Lib.hid hBW
  have zU : w.heap.size + 1 < U.heap.size := hBW.lt
  have k0 := hBD.cells 0 rfl
  have k1 := hBD.cells 1 rfl
  have k2 := hBD.cells 2 rfl
  have zD : w.heap.size < U.heap.size := by omega
  clear hU hXU hBD hBW
  go_wp2_with (at_builtin; refine (show Hid _ from ?_).out)
  refine Lib.hid ?_
  refine wpList_append_row (k := .i64) rfl _ _ 24 rfl U.heap.size 3 i0 (.int .i64 0) 8 Tryd.underlying24 hi0 hz0 hz1 hz2 rfl (rowG U.heap.size 1) 1 [.int .i64 1] rfl (World.ownsRow_lit U #[.int .i64 1] 1 (Nat.le_refl _) (by unfold maxLen; omega) rfl) _ rfl d.input (HR.out.ext (XU.out.tr ((Ext.refl U).alloc _))) (by unfold maxLen; omega) (by omega) (by simp) ?_
  intro v' V hown hgrow
  have OWN := Lib.hid hown
  have hX1 := Ext.grown (show Ext U _ from (Ext.refl U).alloc _) hgrow (fun k hk => by simp [Value.ownBlock] at hk; omega)
  have X1 := Lib.hid hX1
  replace k0 := hX1.cell k0
  replace k1 := hX1.cell k1
  replace k2 := hX1.cell k2
  have zV : w.heap.size < V.heap.size := Nat.lt_of_lt_of_le zD hX1.size
  clear hown hgrow hX1
  go_wp2_with fail
  refine (MAY.out _ _ (may_app d.input _ _ _ (OWN.out))).mono ?_
  rintro e w' ⟨rfl, rfl⟩
  go_wp2
  refine bodyPost_ret (v := .tuple #[.slice none 0 0, .slice none 0 0, .int .i64 5]) (by simp [results, Tryd.results20, go_sem, *]) rfl ⟨rfl, XU.out.tr X1.out⟩
set_option maxHeartbeats 8000000 in
set_option maxRecDepth 100000 in
theorem rinfer_good {A : Nat → Prop} {n : Nat} {w : World} {v : Value} {d : DefL} (h : DefAt A n w v d) (hg : goodD d = true) (hf : fullS d.input = true) :
    Calls Tryd.prog 20 #[v] w fun e w' => InferP w.heap.size w e w' (match inferS true [] 0 d.input d.layers with
      | .bad b => .bad b
      | .ok x ps => if d.loss = 1 ∧ x.length ≠ 1 then .bad 2 else .ok x ps) := by
  obtain ⟨TT, hT⟩ : ∃ T, inferS true [] 0 d.input d.layers = T := ⟨_, rfl⟩
  obtain ⟨T2, hT2⟩ : ∃ T, (match TT with
      | .bad b => Told.bad b
      | .ok x ps => if d.loss = 1 ∧ x.length ≠ 1 then .bad 2 else .ok x ps) = T := ⟨_, rfl⟩
  rw [hT, hT2]
  have HT := Lib.hid hT
  have HT2 := Lib.hid hT2
  clear hT hT2
  obtain ⟨i0, hi0, hz0, hz1, hz2⟩ := info_parts cloneI_info
  have hlen := good_in hg
  obtain ⟨l', hl'⟩ := good_layers hg
  obtain ⟨a1, c1, a2, c2, rfl, hi, hL⟩ := h.is
  have HR := Lib.hid hi
  have HLAY := Lib.hid hL
  have HA := Lib.hid h.below
  have HG := Lib.hid hl'
  have HF := Lib.hid hf
  have MAY := Lib.hid (fun (W : World) (z : Value) (hz : Row .i64 W z (1 :: d.input)) => may6_any hz)
  rw [show shp (1 :: d.input) = fullS d.input from rfl, hf] at MAY
  have HROW : Hid (RowS w.heap.size w (.slice a1 d.input.length c1) d.input) := Lib.hid ⟨hi, fun b hb => .inl (by
    obtain ⟨b', o', rfl, hc⟩ := hxc_of hi (by intro e; rw [e] at hlen; simp at hlen)
    have := cell_lt (hc 0 (by omega))
    simpa using (by cases hb; exact this))⟩
  clear h hg hf hi hL hl'
  go_enter Tryd.func20, Tryd.ntmps20
  go_upto_region 2 with (fail)
  obtain ⟨U, hU⟩ : ∃ U, U = (w.alloc (.cells #[.slice a1 d.input.length c1, .slice a2 d.layers.length c2, .int .i64 d.loss] 27)).alloc (.cells #[.slice none 0 0, .bool true, .int .i64 0] 64) := ⟨_, rfl⟩
  rw [← hU]
  have hXU : Ext w U := by rw [hU]; exact ((Ext.refl w).alloc _).alloc _
  have hBD : Blk U w.heap.size 27 #[.slice a1 d.input.length c1, .slice a2 d.layers.length c2, .int .i64 d.loss] := by rw [hU]; exact (Blk.new w _ _).alloc _
  have hBW : Blk U (w.heap.size + 1) 64 (walkA (.slice none 0 0) true 0) := by rw [hU]; exact Blk.new27 (by simp)
  have XU := Lib.hid hXU
  have BD := Lib.hid hBD
  have BW := Lib.hid hBW
  have zU : w.heap.size + 1 < U.heap.size := hBW.lt
  have k0 := hBD.cells 0 rfl
  have k1 := hBD.cells 1 rfl
  have k2 := hBD.cells 2 rfl
  have zD : w.heap.size < U.heap.size := by omega
  clear hU hXU hBD hBW
  go_wp2_with (at_builtin; refine (show Hid _ from ?_).out)
  refine Lib.hid ?_
  refine wpList_append_row (k := .i64) rfl _ _ 24 rfl U.heap.size 3 i0 (.int .i64 0) 8 Tryd.underlying24 hi0 hz0 hz1 hz2 rfl (rowG U.heap.size 1) 1 [.int .i64 1] rfl (World.ownsRow_lit U #[.int .i64 1] 1 (Nat.le_refl _) (by unfold maxLen; omega) rfl) _ rfl d.input (HR.out.ext (XU.out.tr ((Ext.refl U).alloc _))) (by unfold maxLen; omega) (by omega) (by simp) ?_
  intro v' V hown hgrow
  have OWN := Lib.hid hown
  have hX1 := Ext.grown (show Ext U _ from (Ext.refl U).alloc _) hgrow (fun k hk => by simp [Value.ownBlock] at hk; omega)
  have X1 := Lib.hid hX1
  replace k0 := hX1.cell k0
  replace k1 := hX1.cell k1
  replace k2 := hX1.cell k2
  have zV : w.heap.size < V.heap.size := Nat.lt_of_lt_of_le zD hX1.size
  clear hown hgrow hX1
  go_wp2_with fail
  refine (MAY.out _ _ (may_app d.input _ _ _ (OWN.out))).mono ?_
  rintro e w' ⟨rfl, rfl⟩
  have RB := Lib.hid (rbody_any n A (w.heap.size + 1 + 1) (w.heap.size + 1) (.slice a2 d.layers.length c2) d.layers 0 64 l' [] ⟨#[]⟩ true a1 c1 d.input [] V (HLAY.out.ext (XU.out.tr X1.out)) (fun b hb => Nat.lt_succ_of_lt (HA.out b hb)) HG.out (by omega) (by omega) (by simp) rfl (by simp) ⟨⟨_, BW.out.ext X1.out, ParsAt.nil _ _⟩, ⟨HROW.out.1.ext (XU.out.tr X1.out), fun b hb => (HROW.out.2 b hb).elim (fun h => .inl (by omega)) (fun ⟨cs, fr, h⟩ => .inr ⟨cs, fr, (((XU.out.tr X1.out).block b (Array.getElem?_eq_some_iff.1 h).1).trans h)⟩)⟩, HF.out, by simp, by simp, by omega, by have := X1.out.size; omega⟩)
  rw [HT.out] at RB
  go_wp2_with fail
  refine RB.out.mono ?_
  rintro e W ⟨xa, xs, xc, bad, qs, fl, rfl, hr, hw, hc, hxl, -, ht⟩
  have HR2 := Lib.hid hr
  have HW2 := Lib.hid hw
  have HC := Lib.hid hc
  have XX := Lib.hid (hc.to_ext (XU.out.tr X1.out) (by omega) (by omega))
  have bdW := hc.blk (BD.out.ext X1.out) (by omega) (by decide)
  have n2 := bdW.cells 2 (show _ = some (.int .i64 d.loss) from rfl)
  have zn := bdW.lt
  obtain ⟨pv, hblk, hpar⟩ := hw
  obtain ⟨pa, pc, rfl⟩ := hpar.form
  have m0 := hblk.cells 0 (show _ = some (.slice pa qs.length pc) from rfl)
  have m2 := hblk.cells 2 (show _ = some (.int .i64 bad) from rfl)
  have gm := hblk.frozen 2
  have zm := hblk.lt
  have HP := Lib.hid hpar
  have HB := Lib.hid hblk
  clear hr hc bdW hblk hpar RB k0 k1 k2 zV zD zU
  cases TT with
  | bad er =>
    obtain rfl : bad = er := ht
    have hne := inferS_ne d.layers HT.out
    have tb : (bad == 0) = false := by simpa using hne
    have tb2 : (bad != 0) = true := by simpa using hne
    clear hne
    go_wp2_with fail
    go_quiet (fail)
    go_wp2
    rw [← HT2.out]
    refine bodyPost_ret (v := .tuple #[.slice none 0 0, .slice none 0 0, .int .i64 bad]) (by simp [results, Tryd.results20, go_sem, *]) rfl ⟨rfl, XX.out.tr (by repeat (first | with_reducible exact Ext.refl _ | with_reducible apply Ext.drew | with_reducible apply Ext.drewN | with_reducible apply Ext.alloc | ((with_reducible refine Ext.setCell ?_ ?_ _); rotate_left; focus (first | (simp; done) | (simp; omega) | omega)) | with_reducible refine Ext.tr ?_ x1 | with_reducible refine Ext.tr ?_ x2 | with_reducible refine Ext.tr ?_ x5 | with_reducible refine Ext.tr ?_ xa | with_reducible refine Ext.tr ?_ xc | with_reducible assumption))⟩
  | ok o ns =>
    obtain ⟨rfl, rfl, rfl⟩ := ht
    by_cases hbad : d.loss = 1 ∧ xs.length ≠ 1
    · obtain ⟨hl1, hl2⟩ := hbad
      have tl : (d.loss == 1) = true := by simpa using hl1
      have tx : ((xs.length : Int) != 1) = true := by simp; omega
      have HTT := Lib.hid (show T2 = .bad 2 by rw [← HT2.out]; simp only; rw [if_pos ⟨hl1, hl2⟩])
      clear hl1 hl2
      go_wp2_with fail
      go_quiet (fail)
      rename_i nq
      go_wp2
      rw [HTT.out]
      refine bodyPost_ret (v := .tuple #[.slice none 0 0, .slice none 0 0, .int .i64 2]) (by simp [results, Tryd.results20, go_sem, *]) rfl ⟨rfl, (XX.out.setCell (by simp) _).drewN nq⟩
    · have HTT := Lib.hid (show T2 = .ok xs qs by rw [← HT2.out]; simp only; rw [if_neg hbad])
      have CP := Lib.hid (fun u (x : Ext W u) => copyN_any (HR2.out.1.ext x) (by omega))
      have tx : (d.loss == 1) = false ∨ ((d.loss == 1) = true ∧ ((xs.length : Int) != 1) = false) := by
        by_cases h1 : d.loss = 1
        · exact .inr ⟨by simpa using h1, by simp; omega⟩
        · exact .inl (by simpa using h1)
      clear hbad
      rcases tx with tl | ⟨tl, tx⟩
      all_goals
        go_wp2_with fail
        go_region_held3 (fun w' => w'.cell? ⟨w.heap.size + 1, 0, none⟩ = some (.slice pa qs.length pc) ∧ w.heap.size + 1 < w'.heap.size)
          (refine ⟨?_, ?_⟩ <;> first | (simp [go_sem, *]; done) | omega | (simp at z1; omega) | (simp at z2; omega) | (simp at z3; omega) | (simp at z4; omega) | exact (by repeat (first | with_reducible exact Ext.refl _ | with_reducible apply Ext.drew | with_reducible apply Ext.drewN | with_reducible apply Ext.alloc | ((with_reducible refine Ext.setCell ?_ ?_ _); rotate_left; focus (first | (simp; done) | (simp; omega) | omega)) | with_reducible refine Ext.tr ?_ x1 | with_reducible refine Ext.tr ?_ x2 | with_reducible refine Ext.tr ?_ x5 | with_reducible refine Ext.tr ?_ xa | with_reducible refine Ext.tr ?_ xc | with_reducible assumption)))
          ((go_at_call 21; refine (CP.out _ (by repeat (first | with_reducible exact Ext.refl _ | with_reducible apply Ext.drew | with_reducible apply Ext.drewN | with_reducible apply Ext.alloc | ((with_reducible refine Ext.setCell ?_ ?_ _); rotate_left; focus (first | (simp; done) | (simp; omega) | omega)) | with_reducible refine Ext.tr ?_ x1 | with_reducible refine Ext.tr ?_ x2 | with_reducible refine Ext.tr ?_ x5 | with_reducible refine Ext.tr ?_ xa | with_reducible refine Ext.tr ?_ xc | with_reducible assumption))).mono ?_; rintro e v5 ⟨xv, rfl, x5, o5⟩; obtain ⟨p5, q5, rfl⟩ := own_form2 o5; have O5 := Lib.hid o5; have X5 := Lib.hid (show Ext W v5 from (by repeat (first | with_reducible exact Ext.refl _ | with_reducible apply Ext.drew | with_reducible apply Ext.drewN | with_reducible apply Ext.alloc | ((with_reducible refine Ext.setCell ?_ ?_ _); rotate_left; focus (first | (simp; done) | (simp; omega) | omega)) | with_reducible refine Ext.tr ?_ x1 | with_reducible refine Ext.tr ?_ x2 | with_reducible refine Ext.tr ?_ x5 | with_reducible refine Ext.tr ?_ xa | with_reducible refine Ext.tr ?_ xc | with_reducible assumption))); have c0 := X5.out.cell m0; have cz := cell_lt c0; simp only at cz; clear CP o5))
        all_goals
          go_wp2
          rw [HTT.out]
          refine bodyPost_ret (v := .tuple #[.slice p5 xs.length q5, .slice pa qs.length pc, .int .i64 0]) (by simp [results, Tryd.results20, go_sem, *]) rfl ⟨p5, q5, pa, pc, rfl, XX.out.tr X5.out, own_base O5.out (by have := XX.out.size; simp; omega), (HP.out.ext X5.out).base (by omega)⟩
/-- The reference tells what infer tells: of a definition that may be. -/
theorem rinfer_any {A : Nat → Prop} {n : Nat} {w : World} {v : Value} {d : DefL} (h : DefAt A n w v d) (hg : goodD d = true) :
    Calls Tryd.prog 20 #[v] w fun e w' => InferP w.heap.size w e w' (toldS d) := by
  rw [told_good hg]
  cases hf : fullS d.input with
  | false => exact rinfer_bad5 h hg hf
  | true => exact rinfer_good h hg hf
end Go.Proofs.YtgokenbojppnhaaDoor
