/- (*ratchetref27.walk).windows: a convolution or a pool. (*ratchetref27.walk).layer: a layer that is no residual. (*ratchetref27.walk).windows, (*ratchetref27.walk).layer of any layer. -/
import Derived.Test.YtgokenbojppnhaaDoorRefI1
import Derived.Test.YtgokenbojppnhaaDoorInfGood
import Derived.BigQuiet
import Derived.Deep.RegionHeld3
import Derived.Test.YtgokenbojppnhaaDoorInfNames
namespace Go.Proofs.YtgokenbojppnhaaDoor
open Go.RowKit
attribute [local go_sem ↓] Go.wp_at_zero Go.wp_at_succ
/-- The reference's walk in memory: its parameters so far, whether the next layer is the first, its error. -/
def WalkAt (B S : Nat) (w : World) (first : Bool) (ps : List ParamP) (bad : Int) : Prop := ∃ pv, Blk w S 64 (walkA pv first bad) ∧ ParsAt B w pv ps
theorem WalkAt.ext {B S : Nat} {w w' : World} {first : Bool} {ps : List ParamP} {bad : Int} (h : WalkAt B S w first ps bad) (x : Ext w w') : WalkAt B S w' first ps bad := by
  obtain ⟨pv, h1, h2⟩ := h
  exact ⟨pv, h1.ext x, h2.ext x⟩
theorem ParsAt.below {B : Nat} {w : World} {p : Addr} {pv u : Value} {ps : List ParamP} (h : ParsAt B w pv ps) (hp : p.block < B) : ParsAt B (w.setCell p u) pv ps := by
  obtain ⟨rs, r1, r2, r3⟩ := h
  exact ⟨rs, r1, ownsRow_setCell_below r2 hp _, fun q hq => ownsRow_setCell_below (r3 q hq) hp _⟩
/-- What a layer that is no residual promises. -/
def DoneR (B S : Nat) (w : World) (ps : List ParamP) (o : Option (List Int × List ParamP)) (e : Ending) (w' : World) : Prop :=
  ∃ (xa : Option Addr) (xs : List Int) (xc : Nat) (bad : Int) (qs : List ParamP), e = .returned (.slice xa xs.length xc) ∧ RowS S w' (.slice xa xs.length xc) xs ∧ WalkAt B S w' false qs bad ∧ Chr B S w w' ∧
    match o with
    | none => xs = [] ∧ bad = 2
    | some (x, ns) => if ns.all (fun p => shp p.shape) = true then xs = x ∧ qs = ps ++ ns ∧ bad = 0 else xs.length ≤ 1000 ∧ bad = 5
/-- What is asked ahead of a layer. -/
structure LayAt (B S : Nat) (w : World) (iv : Value) (s : List Int) (ps : List ParamP) (nm : Bs) : Prop where
  walk : WalkAt B S w false ps 0
  row : RowS S w iv s
  dim : fullS s = true
  name : nm.length ≤ 1000
  few : ps.length ≤ 900
  low : S < B
  base : B ≤ w.heap.size
theorem RowS.nil (B : Nat) (w : World) : RowS B w (.slice none 0 0) [] := ⟨Row.nil _ _, fun b h => by cases h⟩
theorem LayAt.ext {B S : Nat} {w w' : World} {iv : Value} {s : List Int} {ps : List ParamP} {nm : Bs} (h : LayAt B S w iv s ps nm) (x : Ext w w') : LayAt B S w' iv s ps nm :=
  ⟨h.walk.ext x, h.row.ext x, h.dim, h.name, h.few, h.low, Nat.le_trans h.base x.size⟩
theorem own_chr {B S : Nat} {w w' : World} {v : Value} {n : Nat} {xs : List Value} (h : w.ownsRow B 3 1 v n xs) (c : Chr B S w w') (hS : S < B) : w'.ownsRow B 3 1 v n xs :=
  own_keep h (fun k cs fr hk e => c.cells k cs _ fr (by omega) (by decide) e)
theorem two_match {ps : List ParamP} {p1 p2 q1 : ParamP} {x : List Int} (hx : x.length ≤ 1000) (hs : p1.shape = q1.shape) (he : shp q1.shape = true → p1 = q1) :
    if [q1, p2].all (fun p => shp p.shape) = true then x = x ∧ (ps ++ [p1]) ++ [p2] = ps ++ [q1, p2] ∧ badP p2.shape (badP p1.shape 0) = 0 else x.length ≤ 1000 ∧ badP p2.shape (badP p1.shape 0) = 5 := by
  rw [hs]
  cases h1 : shp q1.shape with
  | false =>
    have e1 : badP q1.shape 0 = 5 := by simp [badP, h1]
    rw [if_neg (by simp [h1]), e1]
    exact ⟨hx, by simp [badP]⟩
  | true =>
    have e1 : badP q1.shape 0 = 0 := by simp [badP, h1]
    rw [he h1]
    rw [e1]
    cases h2 : shp p2.shape with
    | false =>
      rw [if_neg (by simp [h2])]
      exact ⟨hx, by simp [badP, h2]⟩
    | true =>
      rw [if_pos (by simp [h1, h2])]
      exact ⟨rfl, by simp, by simp [badP, h2]⟩
theorem foldl_mul (l : List Int) : ∀ a : Int, l.foldl (· * ·) a = a * l.foldl (· * ·) 1 := by
  induction l with
  | nil => intro a; simp
  | cons x xs ih => intro a; rw [List.foldl_cons, List.foldl_cons, ih, ih (1 * x), Int.one_mul, Int.mul_assoc]
theorem pr_cons (d : Int) (ds : List Int) : pr (d :: ds) = d * pr ds := by
  unfold pr
  rw [List.foldl_cons, foldl_mul, Int.one_mul]
theorem pr_one {Z : Int} (z0 : 1 ≤ Z) (j : Nat) : 1 ≤ pr (List.replicate j Z) := by
  induction j with
  | zero => simp [pr]
  | succ j ih =>
    rw [List.replicate_succ, pr_cons]
    have := Int.mul_le_mul z0 ih (by omega) (by omega)
    omega
theorem conv_times {I O Z : Int} {j : Nat} (z0 : 1 ≤ Z) (i1 : 1 ≤ I) (o1 : 1 ≤ O) (h : pr (O :: I :: List.replicate j Z) ≤ 65536) : timesR j I Z = I * pr (List.replicate j Z) ∧ timesR j O Z = O * pr (List.replicate j Z) := by
  rw [pr_cons, pr_cons] at h
  have hp := pr_one z0 j
  have a1 := Int.mul_le_mul i1 hp (by omega) (by omega)
  have a2 := Int.mul_le_mul_of_nonneg_right o1 (show 0 ≤ I * pr (List.replicate j Z) by omega)
  have a3 := Int.mul_le_mul_of_nonneg_right i1 (show 0 ≤ pr (List.replicate j Z) by omega)
  have a4 := Int.mul_le_mul_of_nonneg_left a3 (show 0 ≤ O by omega)
  rw [Int.one_mul] at a2 a3 a4
  exact ⟨timesR_pr j z0 (by omega) i1, timesR_pr j z0 (by omega) o1⟩
/-- A refusal: 2 is stored, nothing handed back. -/
theorem done_bad {B S : Nat} {w W : World} {iv : Value} {s : List Int} {ps : List ParamP} {nm : Bs} (h : LayAt B S w iv s ps nm) (x : Ext w W) : DoneR B S w ps none (.returned (.slice none 0 0)) (W.setCell ⟨S, 2, none⟩ (.int .i64 2)) := by
  obtain ⟨pv, h1, h2⟩ := h.walk
  exact ⟨none, [], 0, 2, ps, rfl, RowS.nil _ _, ⟨pv, (h1.ext x).set_ 2 _, (h2.ext x).below h.low⟩, (Chr.ext x h.base).set, rfl, rfl⟩
set_option maxHeartbeats 8000000 in
set_option maxRecDepth 100000 in
theorem rwin_0 {B S : Nat} {w : World} {K I O Z T P C H : Int} {ba' ia : Option Addr} {bn bc ic : Nat} {ps : List ParamP} {nm : Bs} {N : ByteArray}  (h : LayAt B S w (.slice ia 0 ic) [] ps nm) (hN : ba nm = N)  :
    Calls Tryd.prog 49 #[.pointer (some ⟨S, 0, none⟩), .agg #[.int .i64 K, .int .i64 I, .int .i64 O, .int .i64 Z, .int .i64 T, .int .i64 P, .int .i64 C, .int .i64 H, .slice ba' bn bc], .slice ia 0 ic, .string N] w fun e w' => DoneR B S w ps none e w' := by
  have HL := Lib.hid h
  obtain ⟨pv, hblk, -⟩ := h.walk
  have j0 := hblk.cells 0 (show _ = some pv from rfl)
  have j1 := hblk.cells 1 (show _ = some (.bool false) from rfl)
  have j2 := hblk.cells 2 (show _ = some (.int .i64 0) from rfl)
  have f2 := hblk.frozen 2
  have zS := hblk.lt
  have HROW := Lib.hid h.row
  have HW := Lib.hid hblk
  have BX := Blk.new w 52 #[.int .i64 K, .int .i64 I, .int .i64 O, .int .i64 Z, .int .i64 T, .int .i64 P, .int .i64 C, .int .i64 H, .slice ba' bn bc]
  have HN := Lib.hid hN
  clear h hblk hN
  go_enter Tryd.func49, Tryd.ntmps49
  go_wp2_with fail
  go_quiet (fail)
  go_wp2
  go_ret
  exact done_bad HL.out (by repeat (first | with_reducible exact Ext.refl _ | with_reducible apply Ext.drew | with_reducible apply Ext.drewN | with_reducible apply Ext.alloc | ((with_reducible refine Ext.setCell ?_ ?_ _); rotate_left; focus (first | (simp; done) | (simp; omega) | omega)) | with_reducible refine Ext.tr ?_ x1 | with_reducible refine Ext.tr ?_ x2 | with_reducible refine Ext.tr ?_ x5 | with_reducible refine Ext.tr ?_ xa | with_reducible refine Ext.tr ?_ xc | with_reducible refine Ext.tr ?_ hx | with_reducible refine Ext.tr ?_ hext | with_reducible assumption))
set_option maxHeartbeats 8000000 in
set_option maxRecDepth 100000 in
theorem rwin_1 {B S : Nat} {w : World} {K I O Z T P C H : Int} {ba' ia : Option Addr} {bn bc ic : Nat} {ps : List ParamP} {nm : Bs} {N : ByteArray} {a : Int} (h : LayAt B S w (.slice ia 1 ic) [a] ps nm) (hN : ba nm = N)  :
    Calls Tryd.prog 49 #[.pointer (some ⟨S, 0, none⟩), .agg #[.int .i64 K, .int .i64 I, .int .i64 O, .int .i64 Z, .int .i64 T, .int .i64 P, .int .i64 C, .int .i64 H, .slice ba' bn bc], .slice ia 1 ic, .string N] w fun e w' => DoneR B S w ps none e w' := by
  have HL := Lib.hid h
  obtain ⟨pv, hblk, -⟩ := h.walk
  have j0 := hblk.cells 0 (show _ = some pv from rfl)
  have j1 := hblk.cells 1 (show _ = some (.bool false) from rfl)
  have j2 := hblk.cells 2 (show _ = some (.int .i64 0) from rfl)
  have f2 := hblk.frozen 2
  have zS := hblk.lt
  have HROW := Lib.hid h.row
  have HW := Lib.hid hblk
  have BX := Blk.new w 52 #[.int .i64 K, .int .i64 I, .int .i64 O, .int .i64 Z, .int .i64 T, .int .i64 P, .int .i64 C, .int .i64 H, .slice ba' bn bc]
  have HN := Lib.hid hN
  clear h hblk hN
  go_enter Tryd.func49, Tryd.ntmps49
  go_wp2_with fail
  go_quiet (fail)
  go_wp2
  go_ret
  exact done_bad HL.out (by repeat (first | with_reducible exact Ext.refl _ | with_reducible apply Ext.drew | with_reducible apply Ext.drewN | with_reducible apply Ext.alloc | ((with_reducible refine Ext.setCell ?_ ?_ _); rotate_left; focus (first | (simp; done) | (simp; omega) | omega)) | with_reducible refine Ext.tr ?_ x1 | with_reducible refine Ext.tr ?_ x2 | with_reducible refine Ext.tr ?_ x5 | with_reducible refine Ext.tr ?_ xa | with_reducible refine Ext.tr ?_ xc | with_reducible refine Ext.tr ?_ hx | with_reducible refine Ext.tr ?_ hext | with_reducible assumption))
set_option maxHeartbeats 8000000 in
set_option maxRecDepth 100000 in
theorem rwin_in {B S : Nat} {w : World} {K I O Z T P C H : Int} {ba' ia : Option Addr} {bn bc ic : Nat} {ps : List ParamP} {nm : Bs} {N : ByteArray} {a : Int} {ls : List Int} {m : Nat} (h : LayAt B S w (.slice ia (m + 1) ic) (a :: ls) ps nm) (hN : ba nm = N) (_hm : ls.length = m) (m0 : 1 ≤ m) (m3 : m ≤ 2) (hK : K = 2) (hne : a ≠ I) :
    Calls Tryd.prog 49 #[.pointer (some ⟨S, 0, none⟩), .agg #[.int .i64 K, .int .i64 I, .int .i64 O, .int .i64 Z, .int .i64 T, .int .i64 P, .int .i64 C, .int .i64 H, .slice ba' bn bc], .slice ia (m + 1) ic, .string N] w fun e w' => DoneR B S w ps none e w' := by
  have HL := Lib.hid h
  obtain ⟨pv, hblk, -⟩ := h.walk
  have j0 := hblk.cells 0 (show _ = some pv from rfl)
  have j1 := hblk.cells 1 (show _ = some (.bool false) from rfl)
  have j2 := hblk.cells 2 (show _ = some (.int .i64 0) from rfl)
  have f2 := hblk.frozen 2
  have zS := hblk.lt
  have HROW := Lib.hid h.row
  have HW := Lib.hid hblk
  have BX := Blk.new w 52 #[.int .i64 K, .int .i64 I, .int .i64 O, .int .i64 Z, .int .i64 T, .int .i64 P, .int .i64 C, .int .i64 H, .slice ba' bn bc]
  have HN := Lib.hid hN
  clear h hblk hN
  go_enter Tryd.func49, Tryd.ntmps49
  have w1 : IntKind.i64.wrap ((m : Int) + 1 - 1) = (m : Int) := by rw [IntKind.wrap_i64]; omega
  have m1 : ¬ (m : Int) < 1 := by omega
  have m2 : ¬ (2 : Int) < (m : Int) := by omega
  obtain ⟨b, o, rfl, ci⟩ := row_cell HROW.out.1 (show 0 < m + 1 by omega)
  simp only [List.getD_cons_zero, Nat.add_zero] at ci
  have zb := cell_lt ci
  simp only at zb
  have d1 : decide ((m : Int) < 1) = false := by simpa using m1
  have d2 : decide ((2 : Int) < (m : Int)) = false := by simpa using m2
  subst hK
  have tn : (a != I) = true := by simpa using hne
  clear hne
  go_wp2_with fail
  go_quiet (fail)
  go_wp2
  go_ret
  exact done_bad HL.out (by repeat (first | with_reducible exact Ext.refl _ | with_reducible apply Ext.drew | with_reducible apply Ext.drewN | with_reducible apply Ext.alloc | ((with_reducible refine Ext.setCell ?_ ?_ _); rotate_left; focus (first | (simp; done) | (simp; omega) | omega)) | with_reducible refine Ext.tr ?_ x1 | with_reducible refine Ext.tr ?_ x2 | with_reducible refine Ext.tr ?_ x5 | with_reducible refine Ext.tr ?_ xa | with_reducible refine Ext.tr ?_ xc | with_reducible refine Ext.tr ?_ hx | with_reducible refine Ext.tr ?_ hext | with_reducible assumption))
set_option maxHeartbeats 8000000 in
set_option maxRecDepth 100000 in
theorem rwin_no {B S : Nat} {w : World} {K I O Z T P C H : Int} {ba' ia : Option Addr} {bn bc ic : Nat} {ps : List ParamP} {nm : Bs} {N : ByteArray} {a : Int} {ls : List Int} {m : Nat} (h : LayAt B S w (.slice ia (m + 1) ic) (a :: ls) ps nm) (hN : ba nm = N) (hm : ls.length = m) (m0 : 1 ≤ m) (m3 : m ≤ 2) (hK : K ≠ 2) (z0 : 1 ≤ Z) (z1 : Z ≤ 4096) (t0 : 1 ≤ Z) (t1 : Z ≤ 4096) (p0 : 0 ≤ P) (p1 : P ≤ 4096) (hPS : placesS Z Z P ls = none) :
    Calls Tryd.prog 49 #[.pointer (some ⟨S, 0, none⟩), .agg #[.int .i64 K, .int .i64 I, .int .i64 O, .int .i64 Z, .int .i64 T, .int .i64 P, .int .i64 C, .int .i64 H, .slice ba' bn bc], .slice ia (m + 1) ic, .string N] w fun e w' => DoneR B S w ps none e w' := by
  have HL := Lib.hid h
  obtain ⟨pv, hblk, -⟩ := h.walk
  have j0 := hblk.cells 0 (show _ = some pv from rfl)
  have j1 := hblk.cells 1 (show _ = some (.bool false) from rfl)
  have j2 := hblk.cells 2 (show _ = some (.int .i64 0) from rfl)
  have f2 := hblk.frozen 2
  have zS := hblk.lt
  have HROW := Lib.hid h.row
  have HW := Lib.hid hblk
  have BX := Blk.new w 52 #[.int .i64 K, .int .i64 I, .int .i64 O, .int .i64 Z, .int .i64 T, .int .i64 P, .int .i64 C, .int .i64 H, .slice ba' bn bc]
  have HN := Lib.hid hN
  clear h hblk hN
  go_enter Tryd.func49, Tryd.ntmps49
  have w1 : IntKind.i64.wrap ((m : Int) + 1 - 1) = (m : Int) := by rw [IntKind.wrap_i64]; omega
  have m1 : ¬ (m : Int) < 1 := by omega
  have m2 : ¬ (2 : Int) < (m : Int) := by omega
  obtain ⟨b, o, rfl, ci⟩ := row_cell HROW.out.1 (show 0 < m + 1 by omega)
  simp only [List.getD_cons_zero, Nat.add_zero] at ci
  have zb := cell_lt ci
  simp only at zb
  have d1 : decide ((m : Int) < 1) = false := by simpa using m1
  have d2 : decide ((2 : Int) < (m : Int)) = false := by simpa using m2
  have tk : (K == 2) = false := by simpa using hK
  have tn : (K != 2) = true := by simpa using hK
  have CV := Lib.hid (fun u => conv_any Z Z P m u (by omega))
  have hbd := (fullS_dims HL.out.dim).2.1
  go_wp2_with fail
  go_quiet (fail)
  rename_i nq
  obtain ⟨V, hV⟩ : ∃ V, V = (w.alloc (.cells #[.int .i64 K, .int .i64 I, .int .i64 O, .int .i64 Z, .int .i64 T, .int .i64 P, .int .i64 C, .int .i64 H, .slice ba' bn bc] 52)).drewN nq := ⟨_, rfl⟩
  have xV : Ext w V := by rw [hV]; exact ((Ext.refl w).alloc _).drewN _
  have bV : Blk V w.heap.size 52 #[.int .i64 K, .int .i64 I, .int .i64 O, .int .i64 Z, .int .i64 T, .int .i64 P, .int .i64 C, .int .i64 H, .slice ba' bn bc] := by rw [hV]; exact BX.ext ((Ext.refl _).drewN nq)
  rw [← hV]
  have HV := Lib.hid xV
  have BV := Lib.hid bV
  have HR := Lib.hid (HROW.out.ext xV)
  replace j2 := xV.cell j2
  replace f2 := (HW.out.ext xV).frozen 2
  replace ci := xV.cell ci
  have zV : w.heap.size < V.heap.size := bV.lt
  have zV2 : S < V.heap.size := by omega
  have zV3 : b < V.heap.size := by omega
  have l0 := bV.cells 0 rfl
  have l1 := bV.cells 1 rfl
  have l2 := bV.cells 2 rfl
  have l3 := bV.cells 3 rfl
  have l4 := bV.cells 4 rfl
  have l5 := bV.cells 5 rfl
  have PL := Lib.hid (fun (u : World) (x : Ext V u) (ka sa pa da : Option Addr) (kc sc pc dc B' : Nat) (fam : Fam4 B' u (.slice ka m kc) (.slice sa m sc) (.slice pa m pc) (.slice da m dc) (List.replicate m Z) (List.replicate m Z) (List.replicate m P) (List.replicate m 1)) => rplaces_any (Z := Z) (T := Z) (P := P) (HR.out.1.ext x) hm (Row.of_owns fam.oa).1 (Row.of_owns fam.ob).1 (Row.of_owns fam.oc).1 (Row.of_owns fam.od).1 (by omega) (fun l hl => hbd l (List.mem_cons_of_mem _ hl)) z0 z1 t0 t1 p0 p1)
  clear hV xV bV BX hbd
  go_wp2_with fail
  refine (CV.out _).mono ?_
  rintro e v1 ⟨ka, kc, sa, sc, pa, pc, da, dc, rfl, x1, fam⟩
  have FA := Lib.hid fam
  have X1 := Lib.hid x1
  replace j2 := x1.cell j2
  replace f2 := (HW.out.ext (HV.out.tr x1)).frozen 2
  replace ci := x1.cell ci
  replace l0 := x1.cell l0
  replace l1 := x1.cell l1
  replace l2 := x1.cell l2
  replace l3 := x1.cell l3
  have zv1 := x1.size
  clear CV fam l4 l5
  go_wp2_with fail
  refine (PL.out _ x1 _ _ _ _ _ _ _ _ _ FA.out).mono ?_
  clear PL x1
  rintro e v2 (⟨hp, rfl, x2⟩ | ⟨p, oa, oc, hp, -⟩)
  · replace j2 := x2.cell j2
    replace f2 := (HW.out.ext ((HV.out.tr X1.out).tr x2)).frozen 2
    have zv2 := x2.size
    have X2 := Lib.hid x2
    clear x2
    go_wp2
    go_ret
    exact done_bad HL.out (((HV.out.tr X1.out).tr X2.out))
  · rw [hPS] at hp; cases hp
set_option maxHeartbeats 8000000 in
set_option maxRecDepth 100000 in
theorem rwin_no2 {B S : Nat} {w : World} {K I O Z T P C H : Int} {ba' ia : Option Addr} {bn bc ic : Nat} {ps : List ParamP} {nm : Bs} {N : ByteArray} {a : Int} {ls : List Int} {m : Nat} (h : LayAt B S w (.slice ia (m + 1) ic) (a :: ls) ps nm) (hN : ba nm = N) (hm : ls.length = m) (m0 : 1 ≤ m) (m3 : m ≤ 2) (hK : K = 2) (hai : a = I) (z0 : 1 ≤ Z) (z1 : Z ≤ 4096) (t0 : 1 ≤ T) (t1 : T ≤ 4096) (p0 : 0 ≤ P) (p1 : P ≤ 4096) (hPS : placesS Z T P ls = none) :
    Calls Tryd.prog 49 #[.pointer (some ⟨S, 0, none⟩), .agg #[.int .i64 K, .int .i64 I, .int .i64 O, .int .i64 Z, .int .i64 T, .int .i64 P, .int .i64 C, .int .i64 H, .slice ba' bn bc], .slice ia (m + 1) ic, .string N] w fun e w' => DoneR B S w ps none e w' := by
  have HL := Lib.hid h
  obtain ⟨pv, hblk, -⟩ := h.walk
  have j0 := hblk.cells 0 (show _ = some pv from rfl)
  have j1 := hblk.cells 1 (show _ = some (.bool false) from rfl)
  have j2 := hblk.cells 2 (show _ = some (.int .i64 0) from rfl)
  have f2 := hblk.frozen 2
  have zS := hblk.lt
  have HROW := Lib.hid h.row
  have HW := Lib.hid hblk
  have BX := Blk.new w 52 #[.int .i64 K, .int .i64 I, .int .i64 O, .int .i64 Z, .int .i64 T, .int .i64 P, .int .i64 C, .int .i64 H, .slice ba' bn bc]
  have HN := Lib.hid hN
  clear h hblk hN
  go_enter Tryd.func49, Tryd.ntmps49
  have w1 : IntKind.i64.wrap ((m : Int) + 1 - 1) = (m : Int) := by rw [IntKind.wrap_i64]; omega
  have m1 : ¬ (m : Int) < 1 := by omega
  have m2 : ¬ (2 : Int) < (m : Int) := by omega
  obtain ⟨b, o, rfl, ci⟩ := row_cell HROW.out.1 (show 0 < m + 1 by omega)
  simp only [List.getD_cons_zero, Nat.add_zero] at ci
  have zb := cell_lt ci
  simp only at zb
  have d1 : decide ((m : Int) < 1) = false := by simpa using m1
  have d2 : decide ((2 : Int) < (m : Int)) = false := by simpa using m2
  subst hK
  have hai2 := hai.symm
  subst hai2
  have CV := Lib.hid (fun u => conv_any Z T P m u (by omega))
  have hbd := (fullS_dims HL.out.dim).2.1
  go_wp2_with fail
  go_quiet (fail)
  rename_i nq
  obtain ⟨V, hV⟩ : ∃ V, V = (w.alloc (.cells #[.int .i64 2, .int .i64 I, .int .i64 O, .int .i64 Z, .int .i64 T, .int .i64 P, .int .i64 C, .int .i64 H, .slice ba' bn bc] 52)).drewN nq := ⟨_, rfl⟩
  have xV : Ext w V := by rw [hV]; exact ((Ext.refl w).alloc _).drewN _
  have bV : Blk V w.heap.size 52 #[.int .i64 2, .int .i64 I, .int .i64 O, .int .i64 Z, .int .i64 T, .int .i64 P, .int .i64 C, .int .i64 H, .slice ba' bn bc] := by rw [hV]; exact BX.ext ((Ext.refl _).drewN nq)
  rw [← hV]
  have HV := Lib.hid xV
  have BV := Lib.hid bV
  have HR := Lib.hid (HROW.out.ext xV)
  replace j2 := xV.cell j2
  replace f2 := (HW.out.ext xV).frozen 2
  replace ci := xV.cell ci
  have zV : w.heap.size < V.heap.size := bV.lt
  have zV2 : S < V.heap.size := by omega
  have zV3 : b < V.heap.size := by omega
  have l0 := bV.cells 0 rfl
  have l1 := bV.cells 1 rfl
  have l2 := bV.cells 2 rfl
  have l3 := bV.cells 3 rfl
  have l4 := bV.cells 4 rfl
  have l5 := bV.cells 5 rfl
  have PL := Lib.hid (fun (u : World) (x : Ext V u) (ka sa pa da : Option Addr) (kc sc pc dc B' : Nat) (fam : Fam4 B' u (.slice ka m kc) (.slice sa m sc) (.slice pa m pc) (.slice da m dc) (List.replicate m Z) (List.replicate m T) (List.replicate m P) (List.replicate m 1)) => rplaces_any (Z := Z) (T := T) (P := P) (HR.out.1.ext x) hm (Row.of_owns fam.oa).1 (Row.of_owns fam.ob).1 (Row.of_owns fam.oc).1 (Row.of_owns fam.od).1 (by omega) (fun l hl => hbd l (List.mem_cons_of_mem _ hl)) z0 z1 t0 t1 p0 p1)
  clear hV xV bV BX hbd
  go_wp2_with fail
  refine (CV.out _).mono ?_
  rintro e v1 ⟨ka, kc, sa, sc, pa, pc, da, dc, rfl, x1, fam⟩
  have FA := Lib.hid fam
  have X1 := Lib.hid x1
  replace j2 := x1.cell j2
  replace f2 := (HW.out.ext (HV.out.tr x1)).frozen 2
  replace ci := x1.cell ci
  replace l0 := x1.cell l0
  replace l1 := x1.cell l1
  replace l2 := x1.cell l2
  replace l3 := x1.cell l3
  have zv1 := x1.size
  clear CV fam l4 l5
  go_wp2_with fail
  refine (PL.out _ x1 _ _ _ _ _ _ _ _ _ FA.out).mono ?_
  clear PL x1
  rintro e v2 (⟨hp, rfl, x2⟩ | ⟨p, oa, oc, hp, -⟩)
  · replace j2 := x2.cell j2
    replace f2 := (HW.out.ext ((HV.out.tr X1.out).tr x2)).frozen 2
    have zv2 := x2.size
    have X2 := Lib.hid x2
    clear x2
    go_wp2
    go_ret
    exact done_bad HL.out (((HV.out.tr X1.out).tr X2.out))
  · rw [hPS] at hp; cases hp
set_option maxHeartbeats 8000000 in
set_option maxRecDepth 100000 in
theorem rwin_pool {B S : Nat} {w : World} {K I O Z T P C H : Int} {ba' ia : Option Addr} {bn bc ic : Nat} {ps : List ParamP} {nm : Bs} {N : ByteArray} {a : Int} {ls p : List Int} {m : Nat} (h : LayAt B S w (.slice ia (m + 1) ic) (a :: ls) ps nm) (hN : ba nm = N) (hm : ls.length = m) (m0 : 1 ≤ m) (m3 : m ≤ 2) (hK : K ≠ 2) (z0 : 1 ≤ Z) (z1 : Z ≤ 4096) (t0 : 1 ≤ Z) (t1 : Z ≤ 4096) (p0 : 0 ≤ P) (p1 : P ≤ 4096) (hPS : placesS Z Z P ls = some p) :
    Calls Tryd.prog 49 #[.pointer (some ⟨S, 0, none⟩), .agg #[.int .i64 K, .int .i64 I, .int .i64 O, .int .i64 Z, .int .i64 T, .int .i64 P, .int .i64 C, .int .i64 H, .slice ba' bn bc], .slice ia (m + 1) ic, .string N] w fun e w' => DoneR B S w ps (some (a :: p, [])) e w' := by
  have HL := Lib.hid h
  obtain ⟨pv, hblk, -⟩ := h.walk
  have j0 := hblk.cells 0 (show _ = some pv from rfl)
  have j1 := hblk.cells 1 (show _ = some (.bool false) from rfl)
  have j2 := hblk.cells 2 (show _ = some (.int .i64 0) from rfl)
  have f2 := hblk.frozen 2
  have zS := hblk.lt
  have HROW := Lib.hid h.row
  have HW := Lib.hid hblk
  have BX := Blk.new w 52 #[.int .i64 K, .int .i64 I, .int .i64 O, .int .i64 Z, .int .i64 T, .int .i64 P, .int .i64 C, .int .i64 H, .slice ba' bn bc]
  have HN := Lib.hid hN
  clear h hblk hN
  go_enter Tryd.func49, Tryd.ntmps49
  have w1 : IntKind.i64.wrap ((m : Int) + 1 - 1) = (m : Int) := by rw [IntKind.wrap_i64]; omega
  have m1 : ¬ (m : Int) < 1 := by omega
  have m2 : ¬ (2 : Int) < (m : Int) := by omega
  obtain ⟨b, o, rfl, ci⟩ := row_cell HROW.out.1 (show 0 < m + 1 by omega)
  simp only [List.getD_cons_zero, Nat.add_zero] at ci
  have zb := cell_lt ci
  simp only at zb
  have d1 : decide ((m : Int) < 1) = false := by simpa using m1
  have d2 : decide ((2 : Int) < (m : Int)) = false := by simpa using m2
  have tk : (K == 2) = false := by simpa using hK
  have tn : (K != 2) = true := by simpa using hK
  have CV := Lib.hid (fun u => conv_any Z Z P m u (by omega))
  have hbd := (fullS_dims HL.out.dim).2.1
  go_wp2_with fail
  go_quiet (fail)
  rename_i nq
  obtain ⟨V, hV⟩ : ∃ V, V = (w.alloc (.cells #[.int .i64 K, .int .i64 I, .int .i64 O, .int .i64 Z, .int .i64 T, .int .i64 P, .int .i64 C, .int .i64 H, .slice ba' bn bc] 52)).drewN nq := ⟨_, rfl⟩
  have xV : Ext w V := by rw [hV]; exact ((Ext.refl w).alloc _).drewN _
  have bV : Blk V w.heap.size 52 #[.int .i64 K, .int .i64 I, .int .i64 O, .int .i64 Z, .int .i64 T, .int .i64 P, .int .i64 C, .int .i64 H, .slice ba' bn bc] := by rw [hV]; exact BX.ext ((Ext.refl _).drewN nq)
  rw [← hV]
  have HV := Lib.hid xV
  have BV := Lib.hid bV
  have HR := Lib.hid (HROW.out.ext xV)
  replace j2 := xV.cell j2
  replace f2 := (HW.out.ext xV).frozen 2
  replace ci := xV.cell ci
  have zV : w.heap.size < V.heap.size := bV.lt
  have zV2 : S < V.heap.size := by omega
  have zV3 : b < V.heap.size := by omega
  have l0 := bV.cells 0 rfl
  have l1 := bV.cells 1 rfl
  have l2 := bV.cells 2 rfl
  have l3 := bV.cells 3 rfl
  have l4 := bV.cells 4 rfl
  have l5 := bV.cells 5 rfl
  have PL := Lib.hid (fun (u : World) (x : Ext V u) (ka sa pa da : Option Addr) (kc sc pc dc B' : Nat) (fam : Fam4 B' u (.slice ka m kc) (.slice sa m sc) (.slice pa m pc) (.slice da m dc) (List.replicate m Z) (List.replicate m Z) (List.replicate m P) (List.replicate m 1)) => rplaces_any (Z := Z) (T := Z) (P := P) (HR.out.1.ext x) hm (Row.of_owns fam.oa).1 (Row.of_owns fam.ob).1 (Row.of_owns fam.oc).1 (Row.of_owns fam.od).1 (by omega) (fun l hl => hbd l (List.mem_cons_of_mem _ hl)) z0 z1 t0 t1 p0 p1)
  clear hV xV bV BX hbd
  go_wp2_with fail
  refine (CV.out _).mono ?_
  rintro e v1 ⟨ka, kc, sa, sc, pa, pc, da, dc, rfl, x1, fam⟩
  have FA := Lib.hid fam
  have X1 := Lib.hid x1
  replace j2 := x1.cell j2
  replace f2 := (HW.out.ext (HV.out.tr x1)).frozen 2
  replace ci := x1.cell ci
  replace l0 := x1.cell l0
  replace l1 := x1.cell l1
  replace l2 := x1.cell l2
  replace l3 := x1.cell l3
  have zv1 := x1.size
  clear CV fam l4 l5
  go_wp2_with fail
  refine (PL.out _ x1 _ _ _ _ _ _ _ _ _ FA.out).mono ?_
  clear PL x1
  rintro e v2 (⟨hp, -⟩ | ⟨q, oa, oc, hp, rfl, x2, own⟩)
  · rw [hPS] at hp; cases hp
  · rw [hPS] at hp
    cases hp
    obtain ⟨i0, hi0, hz0, hz1, hz2⟩ := info_parts cloneI_info
    have hp4 : p.length ≤ 4 := by
      unfold placesS at hPS
      split at hPS
      · cases hPS; simp; omega
      · cases hPS
    have RW := Lib.hid (Row.of_owns own).1
    replace ci := x2.cell ci
    replace l0 := x2.cell l0
    have zv2 := x2.size
    have X2 := Lib.hid x2
    clear x2 own
    go_wp2_with (at_builtin; refine (show Hid _ from ?_).out)
    refine Lib.hid ?_
    refine wpList_append_row (k := .i64) rfl _ _ 24 rfl v2.heap.size 3 i0 (.int .i64 0) 8 Tryd.underlying24 hi0 hz0 hz1 hz2 rfl (rowG v2.heap.size 1) 1 [.int .i64 a] rfl (World.ownsRow_lit v2 #[.int .i64 a] 1 (Nat.le_refl _) (by unfold maxLen; omega) rfl) _ rfl p (RW.out.ext ((Ext.refl v2).alloc _)) (by unfold maxLen; omega) (by omega) (by simp) ?_
    intro v' w1 hown hgrow
    obtain ⟨va, vc, rfl⟩ := own_form2 hown
    have X3 := Lib.hid (Ext.grown (show Ext v2 _ from (Ext.refl v2).alloc _) hgrow (fun k hk => by simp [Value.ownBlock] at hk; omega))
    have RS : Hid (RowS S w1 (.slice va (a :: p).length vc) (a :: p)) := Lib.hid (RowS.of_own (n := (a :: p).length) (by rw [show (a :: p).length = 1 + p.length by simp; omega]; exact hown))
    clear hown hgrow
    go_wp2
    go_ret
    have XX := ((HV.out.tr X1.out).tr X2.out).tr X3.out
    exact ⟨va, a :: p, vc, 0, ps, by simp [Nat.add_comm], RS.out, HL.out.walk.ext XX, Chr.ext XX HL.out.base, by simp⟩
set_option maxHeartbeats 8000000 in
set_option maxRecDepth 100000 in
theorem rwin_conv {B S : Nat} {w : World} {K I O Z T P C H : Int} {ba' ia : Option Addr} {bn bc ic : Nat} {ps : List ParamP} {nm : Bs} {N : ByteArray} {a : Int} {ls p : List Int} {m : Nat} (h : LayAt B S w (.slice ia (m + 1) ic) (a :: ls) ps nm) (hN : ba nm = N) (hm : ls.length = m) (m0 : 1 ≤ m) (m3 : m ≤ 2) (hK : K = 2) (hai : a = I) (z0 : 1 ≤ Z) (z1 : Z ≤ 4096) (t0 : 1 ≤ T) (t1 : T ≤ 4096) (p0 : 0 ≤ P) (p1 : P ≤ 4096) (i1 : 1 ≤ I) (i2 : I ≤ 4096) (o1 : 1 ≤ O) (o2 : O ≤ 4096) (hPS : placesS Z T P ls = some p) :
    Calls Tryd.prog 49 #[.pointer (some ⟨S, 0, none⟩), .agg #[.int .i64 K, .int .i64 I, .int .i64 O, .int .i64 Z, .int .i64 T, .int .i64 P, .int .i64 C, .int .i64 H, .slice ba' bn bc], .slice ia (m + 1) ic, .string N] w fun e w' => DoneR B S w ps (some (O :: p, [⟨nm ++ [46, 119], O :: I :: List.replicate m Z, I * pr (List.replicate m Z), O * pr (List.replicate m Z)⟩, ⟨nm ++ [46, 98], O :: List.replicate m 1, 0, 0⟩])) e w' := by
  have HL := Lib.hid h
  obtain ⟨pv, hblk, -⟩ := h.walk
  have j0 := hblk.cells 0 (show _ = some pv from rfl)
  have j1 := hblk.cells 1 (show _ = some (.bool false) from rfl)
  have j2 := hblk.cells 2 (show _ = some (.int .i64 0) from rfl)
  have f2 := hblk.frozen 2
  have zS := hblk.lt
  have HROW := Lib.hid h.row
  have HW := Lib.hid hblk
  have BX := Blk.new w 52 #[.int .i64 K, .int .i64 I, .int .i64 O, .int .i64 Z, .int .i64 T, .int .i64 P, .int .i64 C, .int .i64 H, .slice ba' bn bc]
  have HN := Lib.hid hN
  clear h hblk hN
  go_enter Tryd.func49, Tryd.ntmps49
  have w1 : IntKind.i64.wrap ((m : Int) + 1 - 1) = (m : Int) := by rw [IntKind.wrap_i64]; omega
  have m1 : ¬ (m : Int) < 1 := by omega
  have m2 : ¬ (2 : Int) < (m : Int) := by omega
  obtain ⟨b, o, rfl, ci⟩ := row_cell HROW.out.1 (show 0 < m + 1 by omega)
  simp only [List.getD_cons_zero, Nat.add_zero] at ci
  have zb := cell_lt ci
  simp only at zb
  have d1 : decide ((m : Int) < 1) = false := by simpa using m1
  have d2 : decide ((2 : Int) < (m : Int)) = false := by simpa using m2
  subst hK
  have hai2 := hai.symm
  subst hai2
  have CV := Lib.hid (fun u => conv_any Z T P m u (by omega))
  have hbd := (fullS_dims HL.out.dim).2.1
  go_wp2_with fail
  go_quiet (fail)
  rename_i nq
  obtain ⟨V, hV⟩ : ∃ V, V = (w.alloc (.cells #[.int .i64 2, .int .i64 I, .int .i64 O, .int .i64 Z, .int .i64 T, .int .i64 P, .int .i64 C, .int .i64 H, .slice ba' bn bc] 52)).drewN nq := ⟨_, rfl⟩
  have xV : Ext w V := by rw [hV]; exact ((Ext.refl w).alloc _).drewN _
  have bV : Blk V w.heap.size 52 #[.int .i64 2, .int .i64 I, .int .i64 O, .int .i64 Z, .int .i64 T, .int .i64 P, .int .i64 C, .int .i64 H, .slice ba' bn bc] := by rw [hV]; exact BX.ext ((Ext.refl _).drewN nq)
  rw [← hV]
  have HV := Lib.hid xV
  have BV := Lib.hid bV
  have HR := Lib.hid (HROW.out.ext xV)
  replace j2 := xV.cell j2
  replace f2 := (HW.out.ext xV).frozen 2
  replace ci := xV.cell ci
  have zV : w.heap.size < V.heap.size := bV.lt
  have zV2 : S < V.heap.size := by omega
  have zV3 : b < V.heap.size := by omega
  have l0 := bV.cells 0 rfl
  have l1 := bV.cells 1 rfl
  have l2 := bV.cells 2 rfl
  have l3 := bV.cells 3 rfl
  have l4 := bV.cells 4 rfl
  have l5 := bV.cells 5 rfl
  have PL := Lib.hid (fun (u : World) (x : Ext V u) (ka sa pa da : Option Addr) (kc sc pc dc B' : Nat) (fam : Fam4 B' u (.slice ka m kc) (.slice sa m sc) (.slice pa m pc) (.slice da m dc) (List.replicate m Z) (List.replicate m T) (List.replicate m P) (List.replicate m 1)) => rplaces_any (Z := Z) (T := T) (P := P) (HR.out.1.ext x) hm (Row.of_owns fam.oa).1 (Row.of_owns fam.ob).1 (Row.of_owns fam.oc).1 (Row.of_owns fam.od).1 (by omega) (fun l hl => hbd l (List.mem_cons_of_mem _ hl)) z0 z1 t0 t1 p0 p1)
  clear hV xV bV BX hbd
  go_wp2_with fail
  refine (CV.out _).mono ?_
  rintro e v1 ⟨ka, kc, sa, sc, pa, pc, da, dc, rfl, x1, fam⟩
  have FA := Lib.hid fam
  have X1 := Lib.hid x1
  replace j2 := x1.cell j2
  replace f2 := (HW.out.ext (HV.out.tr x1)).frozen 2
  replace ci := x1.cell ci
  replace l0 := x1.cell l0
  replace l1 := x1.cell l1
  replace l2 := x1.cell l2
  replace l3 := x1.cell l3
  have zv1 := x1.size
  clear CV fam l4 l5
  go_wp2_with fail
  refine (PL.out _ x1 _ _ _ _ _ _ _ _ _ FA.out).mono ?_
  clear PL x1
  rintro e v2 (⟨hp, -⟩ | ⟨q, oa, oc, hp, rfl, x2, own⟩)
  · rw [hPS] at hp; cases hp
  rw [hPS] at hp
  cases hp
  obtain ⟨i0, hi0, hz0, hz1, hz2⟩ := info_parts cloneI_info
  have hp4 : p.length ≤ 4 := by
    unfold placesS at hPS
    split at hPS
    · cases hPS; simp; omega
    · cases hPS
  have RW := Lib.hid (Row.of_owns own).1
  have BV2 := Lib.hid ((BV.out.ext X1.out).ext x2)
  have XW2 := Lib.hid ((HV.out.tr X1.out).tr x2)
  replace l0 := x2.cell l0
  replace l1 := x2.cell l1
  replace l2 := x2.cell l2
  have zv2 := x2.size
  have zb2 : w.heap.size < v2.heap.size := by omega
  have OWN := Lib.hid own
  clear x2 own ci j2 f2 l3 FA X1 BV HR HROW
  have F0 : Hid (Fam4 v2.heap.size ((v2.alloc (.cells #[.int .i64 O, .int .i64 I] 3)).alloc (.cells #[.int .i64 O] 3)) (.slice (some ⟨v2.heap.size, 0, none⟩) 2 2) (.slice (some ⟨v2.heap.size + 1, 0, none⟩) 1 1) (.slice none 0 0) (.slice none 0 0) [O, I] [O] [] []) := Lib.hid (by
    have a1 := World.ownsRow_lit (e := 3) (size := 1) v2 #[.int .i64 O, .int .i64 I] 2 (Nat.le_refl _) (by unfold maxLen; omega) rfl
    have a2 := World.ownsRow_lit (e := 3) (size := 1) (v2.alloc (.cells #[.int .i64 O, .int .i64 I] 3)) #[.int .i64 O] 1 (Nat.le_refl _) (by unfold maxLen; omega) rfl
    rw [World.size_alloc] at a2
    refine ⟨own_old a1 ((Ext.refl _).alloc _), own_base a2 (by omega), World.ownsRow_nil _ _ _ _, World.ownsRow_nil _ _ _ _, ?_, fun _ _ h => (by cases h), fun _ _ h => (by cases h), fun _ _ h => (by cases h), fun _ _ h => (by cases h), fun _ _ h => (by cases h)⟩
    intro q h1 h2
    simp [Value.ownBlock] at h1 h2
    omega)
  go_wp2_with fail
  go_loopw [13, 14, 15] (fun s13 s14 i wr => ∃ (j : Nat) (sa ba : Option Addr) (sc bc : Nat), j ≤ m ∧ s13 = .slice sa (j + 2) sc ∧ s14 = .slice ba (j + 1) bc ∧ i = .int .i64 j ∧ Fam4 v2.heap.size wr (.slice sa (j + 2) sc) (.slice ba (j + 1) bc) (.slice none 0 0) (.slice none 0 0) (O :: I :: List.replicate j Z) (O :: List.replicate j 1) [] [] ∧ Ext v2 wr) (fun _ _ i _ => m - (intOf i).toNat)
  case atStart => exact ⟨0, _, _, _, _, Nat.zero_le _, rfl, rfl, rfl, F0.out, (by repeat (first | with_reducible exact Ext.refl _ | with_reducible apply Ext.drew | with_reducible apply Ext.drewN | with_reducible apply Ext.alloc | ((with_reducible refine Ext.setCell ?_ ?_ _); rotate_left; focus (first | (simp; done) | (simp; omega) | omega)) | with_reducible refine Ext.tr ?_ x1 | with_reducible refine Ext.tr ?_ x2 | with_reducible refine Ext.tr ?_ x5 | with_reducible refine Ext.tr ?_ xa | with_reducible refine Ext.tr ?_ xc | with_reducible refine Ext.tr ?_ hx | with_reducible refine Ext.tr ?_ hext | with_reducible assumption))⟩
  case round =>
    obtain ⟨j, sa, ba2, sc, bc2, hj, rfl, rfl, rfl, fam, hext⟩ := hrel
    have FA := Lib.hid fam
    have HX := Lib.hid hext
    have bx := BV2.out.ext hext
    have l1' := bx.cells 1 rfl
    have l2' := bx.cells 2 rfl
    have l3' := bx.cells 3 rfl
    have zx := bx.lt
    have BX := Lib.hid bx
    clear fam hext bx l0 l1 l2 F0
    rcases Nat.lt_or_ge j m with hlt | hge
    · have hjz : (j : Int) < (m : Int) := by omega
      have h1row := own_type FA.out.oa
      have OA : Hid (wr.ownsRow v2.heap.size 3 1 (.slice sa (j + 2) sc) (j + 2) ((O :: I :: List.replicate j Z).map (Value.int .i64))) := Lib.hid (by simpa using FA.out.oa)
      have hzw := HX.out.size
      clear l1' l2'
      go_wp2_with (at_builtin; refine (show Hid _ from ?_).out)
      refine Lib.hid ?_
      refine wpList_append_lies rfl _ _ 24 rfl v2.heap.size 3 i0 (.int .i64 0) 1 8 Tryd.underlying24 hi0 hz0 hz1 hz2 rfl (by decide) (.slice sa (j + 2) sc) (j + 2) ((O :: I :: List.replicate j Z).map (Value.int .i64)) rfl (OA.out.alloc (.cells #[.int .i64 Z] 3)) ⟨wr.heap.size, 0, none⟩ 1 1 [.int .i64 Z] rfl rfl (World.news_of_block (cs := #[.int .i64 Z]) (t := 3) (fr := (0, 0)) (heap_alloc_new wr _)) (by simp [Value.oneCell']) (by decide) (by unfold maxLen; omega) (by omega) (by simp; omega) (wr.heap.size + 1) (by simp) ?_
      intro gg cc w1 hown hgrow hlies
      have fam1 := (FA.out.ext ((Ext.refl wr).alloc (.cells #[.int .i64 Z] 3))).app (ya := O :: I :: List.replicate (j + 1) Z) hgrow (by rw [show (O :: I :: List.replicate (j + 1) Z).length = j + 2 + 1 by simp, show (O :: I :: List.replicate (j + 1) Z).map (Value.int .i64) = (O :: I :: List.replicate j Z).map (Value.int .i64) ++ [.int .i64 Z] by simp [List.replicate_succ']]; exact hown) (by rcases hlies with h | h; exact .inl h; exact .inr (by rw [h]; simp))
      have x1 : Ext v2 w1 := Ext.grown (HX.out.alloc (.cells #[.int .i64 Z] 3)) hgrow (fun r hr => by have := (h1row r hr).1; omega)
      have FA1 := Lib.hid fam1
      have HX1 := Lib.hid x1
      have h2row := own_type FA1.out.ob
      have OB : Hid (w1.ownsRow v2.heap.size 3 1 (.slice ba2 (j + 1) bc2) (j + 1) ((O :: List.replicate j 1).map (Value.int .i64))) := Lib.hid (by simpa using FA1.out.ob)
      have hzw1 := x1.size
      clear fam1 x1 hown hgrow hlies h1row OA FA HX BX l3' zx
      go_wp2_with (at_builtin; refine (show Hid _ from ?_).out)
      refine Lib.hid ?_
      refine wpList_append_lies rfl _ _ 24 rfl v2.heap.size 3 i0 (.int .i64 0) 1 8 Tryd.underlying24 hi0 hz0 hz1 hz2 rfl (by decide) (.slice ba2 (j + 1) bc2) (j + 1) ((O :: List.replicate j 1).map (Value.int .i64)) rfl (OB.out.alloc (.cells #[.int .i64 1] 3)) ⟨w1.heap.size, 0, none⟩ 1 1 [.int .i64 1] rfl rfl (World.news_of_block (cs := #[.int .i64 1]) (t := 3) (fr := (0, 0)) (heap_alloc_new w1 _)) (by simp [Value.oneCell']) (by decide) (by unfold maxLen; omega) (by omega) (by simp; omega) (w1.heap.size + 1) (by simp) ?_
      intro g2 c2 w2 hown hgrow hlies
      have fam2 := ((FA1.out.ext ((Ext.refl w1).alloc (.cells #[.int .i64 1] 3))).rot).app (ya := O :: List.replicate (j + 1) 1) hgrow (by rw [show (O :: List.replicate (j + 1) (1 : Int)).length = j + 1 + 1 by simp, show (O :: List.replicate (j + 1) (1 : Int)).map (Value.int .i64) = (O :: List.replicate j 1).map (Value.int .i64) ++ [.int .i64 1] by simp [List.replicate_succ']]; exact hown) (by rcases hlies with h | h; exact .inl h; exact .inr (by rw [h]; simp))
      have x2 : Ext v2 w2 := Ext.grown (HX1.out.alloc (.cells #[.int .i64 1] 3)) hgrow (fun r hr => by have := (h2row r hr).1; omega)
      have FA2 := Lib.hid ((fam2.rot).rot).rot
      have HX2 := Lib.hid x2
      clear fam2 x2 hown hgrow hlies h2row OB FA1 HX1
      go_wp2_with fail
      go_roundw
      case rel => exact ⟨j + 1, some ⟨gg, 0, none⟩, some ⟨g2, 0, none⟩, cc, c2, by omega, rfl, rfl, by go_num, FA2.out, HX2.out⟩
      case measure => simp [intOf]; omega
    · obtain rfl : j = m := by omega
      have hjz : ¬ (j : Int) < (j : Int) := by omega
      obtain ⟨pv', hblk, hpar⟩ := HL.out.walk
      have hB0 := HL.out.base
      have hXA : Ext w wr := XW2.out.tr HX.out
      have zwr := hXA.size
      have hS0 := HL.out.low
      have HB := Lib.hid (hblk.ext hXA)
      have HP := Lib.hid (hpar.ext hXA)
      have hnm := HL.out.name
      have hfew := HL.out.few
      obtain ⟨M, hM⟩ : ∃ M, ba (nm ++ [46, 119]) = M := ⟨_, rfl⟩
      obtain ⟨M2, hM2⟩ : ∃ M, ba (nm ++ [46, 98]) = M := ⟨_, rfl⟩
      have sN : N.size = nm.length := by rw [← HN.out]; exact ba_size nm
      have a1 := add_ba (A := N) (B := ⟨#[46, 119]⟩) (C := M) (by rw [← HN.out, ← hM, ← ba_app]; rfl) (by rw [sN]; show nm.length + 2 ≤ _; omega)
      have a2 := add_ba (A := N) (B := ⟨#[46, 98]⟩) (C := M2) (by rw [← HN.out, ← hM2, ← ba_app]; rfl) (by rw [sN]; show nm.length + 2 ≤ _; omega)
      have TM1 := Lib.hid (fun u => timesR_any I Z j u i1 i2 z0 z1 (by omega))
      have TM2 := Lib.hid (fun u => timesR_any O Z j u o1 o2 z0 z1 (by omega))
      have OA : Hid (wr.ownsRow B 3 1 (.slice sa (j + 2) sc) (O :: I :: List.replicate j Z).length ((O :: I :: List.replicate j Z).map (Value.int .i64))) := Lib.hid (own_base FA.out.oa (by omega))
      have OB : Hid (wr.ownsRow B 3 1 (.slice ba2 (j + 1) bc2) (O :: List.replicate j 1).length ((O :: List.replicate j 1).map (Value.int .i64))) := Lib.hid (own_base FA.out.ob (by omega))
      have OP : Hid (wr.ownsRow B 3 1 (.slice oa p.length oc) p.length (p.map (Value.int .i64))) := Lib.hid (own_base (own_old OWN.out HX.out) (by omega))
      obtain ⟨q1, hq1⟩ : ∃ q, timesR j I Z = q := ⟨_, rfl⟩
      obtain ⟨q2, hq2⟩ : ∃ q, timesR j O Z = q := ⟨_, rfl⟩
      rw [hq1] at TM1
      rw [hq2] at TM2
      have HQ1 := Lib.hid hq1
      have HQ2 := Lib.hid hq2
      have RP1 := Lib.hid (fun u (x : Ext wr u) => rparam_any (fi := q1) (fo := q2) (HB.out.ext x) (HP.out.ext x) (by have := x.size; omega) hS0 hM (by omega) (own_old OA.out x))
      have hwS : w.heap.size ≠ S := by omega
      have hBw : B ≤ wr.heap.size := by omega
      have XA := Lib.hid hXA
      have HM2 := Lib.hid hM2
      clear hblk hpar FA hM hM2 sN HX hq1 hq2 hXA
      go_wp2_with fail
      go_region_held3 (fun w' => w'.cell? ⟨w.heap.size, 1, none⟩ = some (.int .i64 I) ∧ w'.cell? ⟨w.heap.size, 2, none⟩ = some (.int .i64 O) ∧ w'.cell? ⟨w.heap.size, 3, none⟩ = some (.int .i64 Z) ∧ w.heap.size < w'.heap.size)
        (refine ⟨?_, ?_, ?_, ?_⟩ <;> first | (simp [go_sem, *]; done) | omega | (simp at z1; omega) | (simp at z2; omega) | (simp at z3; omega) | (simp at z4; omega) | exact (by repeat (first | with_reducible exact Ext.refl _ | with_reducible apply Ext.drew | with_reducible apply Ext.drewN | with_reducible apply Ext.alloc | ((with_reducible refine Ext.setCell ?_ ?_ _); rotate_left; focus (first | (simp; done) | (simp; omega) | omega)) | with_reducible refine Ext.tr ?_ x1 | with_reducible refine Ext.tr ?_ x2 | with_reducible refine Ext.tr ?_ x5 | with_reducible refine Ext.tr ?_ xa | with_reducible refine Ext.tr ?_ xc | with_reducible refine Ext.tr ?_ hx | with_reducible refine Ext.tr ?_ hext | with_reducible assumption)))
        (first | ((go_at_call 60; with_reducible refine (TM1.out _).mono ?_; rintro e w' ⟨rfl, rfl⟩)) | ((go_at_call 60; with_reducible refine (TM2.out _).mono ?_; rintro e w' ⟨rfl, rfl⟩)) | ((go_at_call 48; refine (RP1.out _ (by repeat (first | with_reducible exact Ext.refl _ | with_reducible apply Ext.drew | with_reducible apply Ext.drewN | with_reducible apply Ext.alloc | ((with_reducible refine Ext.setCell ?_ ?_ _); rotate_left; focus (first | (simp; done) | (simp; omega) | omega)) | with_reducible refine Ext.tr ?_ x1 | with_reducible refine Ext.tr ?_ x2 | with_reducible refine Ext.tr ?_ x5 | with_reducible refine Ext.tr ?_ xa | with_reducible refine Ext.tr ?_ xc | with_reducible refine Ext.tr ?_ hx | with_reducible refine Ext.tr ?_ hext | with_reducible assumption))).mono ?_; rintro e v3 ⟨pa1, pc1, rfl, b3, p3, c3⟩; have C3 := Lib.hid ((Chr.ext (B := B) (S := S) (show Ext wr _ from (by repeat (first | with_reducible exact Ext.refl _ | with_reducible apply Ext.drew | with_reducible apply Ext.drewN | with_reducible apply Ext.alloc | ((with_reducible refine Ext.setCell ?_ ?_ _); rotate_left; focus (first | (simp; done) | (simp; omega) | omega)) | with_reducible refine Ext.tr ?_ x1 | with_reducible refine Ext.tr ?_ x2 | with_reducible refine Ext.tr ?_ x5 | with_reducible refine Ext.tr ?_ xa | with_reducible refine Ext.tr ?_ xc | with_reducible refine Ext.tr ?_ hx | with_reducible refine Ext.tr ?_ hext | with_reducible assumption))) hBw).trans c3); have B3 := Lib.hid b3; have P3 := Lib.hid p3; have bx3 := C3.out.blk BX.out hwS (by decide); have n1 := bx3.cells 1 rfl; have n2 := bx3.cells 2 rfl; have n3 := bx3.cells 3 rfl; have zn := bx3.lt; clear RP1 b3 p3 c3)))
      all_goals
        clear l1' l2' l3' zx
        have hz3 := C3.out.size
        go_wp2_with fail
        refine (rparam_any (fi := 0) (fo := 0) B3.out P3.out (by omega) hS0 HM2.out (by simp; omega) (own_chr OB.out C3.out hS0)).mono ?_
        rintro e v4 ⟨pa2, pc2, rfl, b4, p4, c4⟩
        have C4 := Lib.hid c4
        have B4 := Lib.hid b4
        have P4 := Lib.hid p4
        have bx4 := C4.out.blk bx3 hwS (by decide)
        have n2' := bx4.cells 2 rfl
        have zn' := bx4.lt
        have RP := Lib.hid (Row.of_owns (own_chr (own_chr OP.out C3.out hS0) C4.out hS0)).1
        have hz4 := C4.out.size
        clear bx3 bx4 b4 p4 c4 n1 n2 n3 zn
        go_wp2_with (at_builtin; refine (show Hid _ from ?_).out)
        refine Lib.hid ?_
        refine wpList_append_row (k := .i64) rfl _ _ 24 rfl v4.heap.size 3 i0 (.int .i64 0) 8 Tryd.underlying24 hi0 hz0 hz1 hz2 rfl (rowG v4.heap.size 1) 1 [.int .i64 O] rfl (World.ownsRow_lit v4 #[.int .i64 O] 1 (Nat.le_refl _) (by unfold maxLen; omega) rfl) _ rfl p (RP.out.ext ((Ext.refl v4).alloc _)) (by unfold maxLen; omega) (by omega) (by simp) ?_
        intro v' w5 hown hgrow
        obtain ⟨va, vc, rfl⟩ := own_form2 hown
        have X5 := Lib.hid (Ext.grown (show Ext v4 _ from (Ext.refl v4).alloc _) hgrow (fun k hk => by simp [Value.ownBlock] at hk; omega))
        have RS : Hid (RowS S w5 (.slice va (O :: p).length vc) (O :: p)) := Lib.hid (RowS.of_own (n := (O :: p).length) (by rw [show (O :: p).length = 1 + p.length by simp; omega]; exact hown))
        clear hown hgrow
        go_wp2
        go_ret
        refine ⟨va, O :: p, vc, _, _, by simp [Nat.add_comm], RS.out, ⟨_, B4.out.ext X5.out, P4.out.ext X5.out⟩, ((Chr.ext XA.out hB0).trans C3.out).trans (C4.out.trans (Chr.ext X5.out (by omega))), ?_⟩
        exact two_match (by simp; omega) rfl (fun h => by
          obtain ⟨hd, h1⟩ := shp_dims h
          obtain ⟨g1, g2⟩ := conv_times z0 i1 o1 h1
          rw [← HQ1.out, ← HQ2.out, g1, g2])
end Go.Proofs.YtgokenbojppnhaaDoor
namespace Go.Proofs.YtgokenbojppnhaaDoor
open Go.RowKit
attribute [local go_sem ↓] Go.wp_at_zero Go.wp_at_succ
theorem Blk.new27 {w : World} {t : TypeId} {cs : Array Value} {n : Nat} (h : w.heap.size = n) : Blk (w.alloc (.cells cs t)) n t cs := by
  subst h
  exact Blk.new _ _ _
theorem own_put27 {w : World} {base g n cap i : Nat} {e : TypeId} {u : Value} {xs : List Value} (h : w.ownsRow base e 1 (.slice (some ⟨g, 0, none⟩) n cap) n xs) : (w.setCell ⟨g, i, none⟩ u).ownsRow base e 1 (.slice (some ⟨g, 0, none⟩) n cap) n (xs.set i u) := by
  obtain ⟨hl, h | ⟨g', cap', cur, e1, hb, hc, h1, h2, h3, h4⟩⟩ := h
  · cases h.1
  · cases e1
    refine ⟨by simpa using hl, .inr ⟨g, cap, cur.setIfInBounds i u, rfl, hb, Blk.set_ hc i u, h1, h2, by simpa using h3, ?_⟩⟩
    rw [← h4]
    simp [List.take_set]
theorem own_blk27 {w : World} {base g n cap : Nat} {e : TypeId} {xs : List Value} (h : w.ownsRow base e 1 (.slice (some ⟨g, 0, none⟩) n cap) n xs) : base ≤ g ∧ ∃ cur, Blk w g e cur ∧ cur.size = cap ∧ n ≤ cap := by
  obtain ⟨hl, h | ⟨g', cap', cur, e1, hb, hc, h1, h2, h3, h4⟩⟩ := h
  · cases h.1
  · cases e1
    exact ⟨hb, cur, hc, by omega, h1⟩
theorem set_last {s : List Int} {n : Nat} (hn : s.length = n) (h : 1 ≤ n) (x : Int) : s.set (n - 1) x = s.take (n - 1) ++ [x] := by
  have hne : s ≠ [] := by rintro rfl; simp at hn; omega
  obtain ⟨ys, y, rfl⟩ : ∃ ys y, s = ys ++ [y] := ⟨s.dropLast, s.getLast hne, (List.dropLast_concat_getLast hne).symm⟩
  have e : n - 1 = ys.length := by simp at hn; omega
  rw [e]
  simp
/-- What is asked ahead of a layer: the first one, or not. -/
structure LayIn (B S : Nat) (w : World) (iv : Value) (s : List Int) (ps : List ParamP) (nm : Bs) (first : Bool) : Prop where
  walk : WalkAt B S w first ps 0
  row : RowS S w iv s
  dim : fullS s = true
  name : nm.length ≤ 1000
  few : ps.length ≤ 900
  low : S < B
  base : B ≤ w.heap.size
theorem WalkAt.blk {B S : Nat} {w : World} {first : Bool} {ps : List ParamP} {bad : Int} (h : WalkAt B S w first ps bad) : ∃ pv, Blk w S 64 (walkA pv first bad) := by
  obtain ⟨pv, h, -⟩ := h
  exact ⟨pv, h⟩
theorem LayIn.after {B S : Nat} {w W : World} {iv : Value} {s : List Int} {ps : List ParamP} {nm : Bs} {first : Bool} (h : LayIn B S w iv s ps nm first) (x : Ext w W) : LayAt B S (W.setCell ⟨S, 1, none⟩ (.bool false)) iv s ps nm := by
  obtain ⟨pv, h1, h2⟩ := h.walk.ext x
  have hlow := h.low
  exact ⟨⟨pv, h1.set_ 1 _, h2.below h.low⟩, (h.row.ext x).chr ((Chr.ext (B := B) (S := S) (Ext.refl W) (Nat.le_trans h.base x.size)).set) (by omega) h1 (by decide), h.dim, h.name, h.few, h.low, Nat.le_trans h.base (Nat.le_trans x.size (KeepsWalks.setCell W _ _).size)⟩
theorem DoneR.after {B S : Nat} {w V W : World} {ps : List ParamP} {o : Option (List Int × List ParamP)} {e : Ending} (h : DoneR B S V ps o e W) (c : Chr B S w V) : DoneR B S w ps o e W := by
  obtain ⟨xa, xs, xc, bad, qs, h1, h2, h3, h4, h5⟩ := h
  exact ⟨xa, xs, xc, bad, qs, h1, h2, h3, c.trans h4, h5⟩
theorem one_match {ps : List ParamP} {p1 : ParamP} {x : List Int} (hx : x.length ≤ 1000) :
    if [p1].all (fun p => shp p.shape) = true then x = x ∧ ps ++ [p1] = ps ++ [p1] ∧ badP p1.shape 0 = 0 else x.length ≤ 1000 ∧ badP p1.shape 0 = 5 := by
  cases h2 : shp p1.shape with
  | false =>
    rw [if_neg (by simp [h2])]
    exact ⟨hx, by simp [badP, h2]⟩
  | true =>
    rw [if_pos (by simp [h2])]
    exact ⟨rfl, rfl, by simp [badP, h2]⟩
/-- A parameter of attention. -/
def attP (nm : Bs) (I : Int) (c : UInt8) : ParamP := ⟨nm ++ [46, c], [I, I], I, I⟩
def attL : Bs := [113, 107, 118, 111]
def badN (I : Int) (j : Nat) : Int := if j = 0 then 0 else badP [I, I] 0
theorem badN_succ (I : Int) (j : Nat) : badP [I, I] (badN I j) = badN I (j + 1) := by
  unfold badN
  rw [if_neg (show ¬ j + 1 = 0 by omega)]
  split
  · rfl
  · unfold badP
    cases shp [I, I] <;> simp
theorem att_cell {j : Nat} (h : j < 4) : ∃ c, attL[j]? = some c ∧ (#[.string ⟨#[113]⟩, .string ⟨#[107]⟩, .string ⟨#[118]⟩, .string ⟨#[111]⟩] : Array Value)[j]? = some (.string (ba [c])) := by
  rcases (by omega : j = 0 ∨ j = 1 ∨ j = 2 ∨ j = 3) with rfl | rfl | rfl | rfl
  · exact ⟨113, rfl, rfl⟩
  · exact ⟨107, rfl, rfl⟩
  · exact ⟨118, rfl, rfl⟩
  · exact ⟨111, rfl, rfl⟩
theorem att_take {nm : Bs} {I : Int} {j : Nat} {c : UInt8} (h : attL[j]? = some c) : (attL.take (j + 1)).map (attP nm I) = (attL.take j).map (attP nm I) ++ [attP nm I c] := by
  obtain ⟨hj, rfl⟩ := List.getElem?_eq_some_iff.1 h
  rw [List.take_succ_eq_append_getElem hj, List.map_append]
  rfl
theorem att_match {ps : List ParamP} {nm : Bs} {I : Int} {x : List Int} (hx : x.length ≤ 1000) :
    if (attL.map (attP nm I)).all (fun p => shp p.shape) = true then x = x ∧ ps ++ (attL.take 4).map (attP nm I) = ps ++ attL.map (attP nm I) ∧ badN I 4 = 0 else x.length ≤ 1000 ∧ badN I 4 = 5 := by
  have e : (attL.map (attP nm I)).all (fun p => shp p.shape) = shp [I, I] := by simp [attL, attP]
  rw [e]
  unfold badN
  rw [if_neg (show ¬ 4 = 0 by omega)]
  cases h2 : shp [I, I] with
  | false =>
    rw [if_neg (by simp)]
    exact ⟨hx, by simp [badP, h2]⟩
  | true =>
    rw [if_pos rfl]
    exact ⟨rfl, rfl, by simp [badP, h2]⟩
set_option maxHeartbeats 8000000 in
set_option maxRecDepth 100000 in
theorem rl_lin_0 {B S : Nat} {w : World} {I O Z T P C H : Int} {ba' ia : Option Addr} {bn bc ic : Nat} {ps : List ParamP} {nm : Bs} {N : ByteArray} {first : Bool} {s : List Int} {n : Nat} (h : LayIn B S w (.slice ia n ic) s ps nm first) (hN : ba nm = N) (_hn : s.length = n) (h0 : n < 1) :
    Calls Tryd.prog 41 #[.pointer (some ⟨S, 0, none⟩), .agg #[.int .i64 1, .int .i64 I, .int .i64 O, .int .i64 Z, .int .i64 T, .int .i64 P, .int .i64 C, .int .i64 H, .slice ba' bn bc], .slice ia n ic, .string N] w fun e w' => DoneR B S w ps none e w' := by
  obtain ⟨pv, hblk, -⟩ := h.walk
  have j1 := hblk.cells 1 (show _ = some (.bool first) from rfl)
  have f1 := hblk.frozen 1
  have zS := hblk.lt
  have HI := Lib.hid h
  have HN := Lib.hid hN
  clear h hblk hN
  go_enter Tryd.func41, Tryd.ntmps41
  go_upto_region 4 with (fail)
  obtain ⟨V, hV⟩ : ∃ V, V = (w.setCell ⟨S, 1, none⟩ (.bool false)).alloc (.cells #[.int .i64 1, .int .i64 I, .int .i64 O, .int .i64 Z, .int .i64 T, .int .i64 P, .int .i64 C, .int .i64 H, .slice ba' bn bc] 52) := ⟨_, rfl⟩
  rw [← hV]
  have HL : Hid (LayAt B S V (.slice ia n ic) s ps nm) := Lib.hid (by rw [hV]; exact (HI.out.after (Ext.refl w)).ext ((Ext.refl _).alloc _))
  have CV : Hid (Chr B S w V) := Lib.hid (by rw [hV]; exact ((Chr.ext (Ext.refl w) HI.out.base).set).trans (Chr.ext ((Ext.refl _).alloc _) (Nat.le_trans HI.out.base (KeepsWalks.setCell w _ _).size)))
  have bV : Blk V w.heap.size 52 #[.int .i64 1, .int .i64 I, .int .i64 O, .int .i64 Z, .int .i64 T, .int .i64 P, .int .i64 C, .int .i64 H, .slice ba' bn bc] := by rw [hV]; exact Blk.new27 (by simp)
  have BV := Lib.hid bV
  have l0 := bV.cells 0 rfl
  have l1 := bV.cells 1 rfl
  have l2 := bV.cells 2 rfl
  have l7 := bV.cells 7 rfl
  have zV := bV.lt
  obtain ⟨pv2, hblk⟩ := HL.out.walk.blk
  have j2 := hblk.cells 2 (show _ = some (.int .i64 0) from rfl)
  have f2 := hblk.frozen 2
  have zS2 := hblk.lt
  have HR := Lib.hid HL.out.row
  have hwS : w.heap.size ≠ S := by omega
  clear hV hblk bV HI j1 f1
  have d1 : decide ((n : Int) < 1) = true := by simp; omega
  have d2 : decide ((2 : Int) < (n : Int)) = false := by simp; omega
  go_wp2_with fail
  go_quiet (fail)
  go_wp2
  go_ret
  exact (done_bad HL.out (by repeat (first | with_reducible exact Ext.refl _ | with_reducible apply Ext.drew | with_reducible apply Ext.drewN | with_reducible apply Ext.alloc | ((with_reducible refine Ext.setCell ?_ ?_ _); rotate_left; focus (first | (simp; done) | (simp; omega) | omega)) | with_reducible refine Ext.tr ?_ x1 | with_reducible refine Ext.tr ?_ x2 | with_reducible refine Ext.tr ?_ x5 | with_reducible refine Ext.tr ?_ xa | with_reducible refine Ext.tr ?_ xc | with_reducible refine Ext.tr ?_ hx | with_reducible refine Ext.tr ?_ hext | with_reducible assumption))).after CV.out
set_option maxHeartbeats 8000000 in
set_option maxRecDepth 100000 in
theorem rl_lin_3 {B S : Nat} {w : World} {I O Z T P C H : Int} {ba' ia : Option Addr} {bn bc ic : Nat} {ps : List ParamP} {nm : Bs} {N : ByteArray} {first : Bool} {s : List Int} {n : Nat} (h : LayIn B S w (.slice ia n ic) s ps nm first) (hN : ba nm = N) (_hn : s.length = n) (h0 : 2 < n) :
    Calls Tryd.prog 41 #[.pointer (some ⟨S, 0, none⟩), .agg #[.int .i64 1, .int .i64 I, .int .i64 O, .int .i64 Z, .int .i64 T, .int .i64 P, .int .i64 C, .int .i64 H, .slice ba' bn bc], .slice ia n ic, .string N] w fun e w' => DoneR B S w ps none e w' := by
  obtain ⟨pv, hblk, -⟩ := h.walk
  have j1 := hblk.cells 1 (show _ = some (.bool first) from rfl)
  have f1 := hblk.frozen 1
  have zS := hblk.lt
  have HI := Lib.hid h
  have HN := Lib.hid hN
  clear h hblk hN
  go_enter Tryd.func41, Tryd.ntmps41
  go_upto_region 4 with (fail)
  obtain ⟨V, hV⟩ : ∃ V, V = (w.setCell ⟨S, 1, none⟩ (.bool false)).alloc (.cells #[.int .i64 1, .int .i64 I, .int .i64 O, .int .i64 Z, .int .i64 T, .int .i64 P, .int .i64 C, .int .i64 H, .slice ba' bn bc] 52) := ⟨_, rfl⟩
  rw [← hV]
  have HL : Hid (LayAt B S V (.slice ia n ic) s ps nm) := Lib.hid (by rw [hV]; exact (HI.out.after (Ext.refl w)).ext ((Ext.refl _).alloc _))
  have CV : Hid (Chr B S w V) := Lib.hid (by rw [hV]; exact ((Chr.ext (Ext.refl w) HI.out.base).set).trans (Chr.ext ((Ext.refl _).alloc _) (Nat.le_trans HI.out.base (KeepsWalks.setCell w _ _).size)))
  have bV : Blk V w.heap.size 52 #[.int .i64 1, .int .i64 I, .int .i64 O, .int .i64 Z, .int .i64 T, .int .i64 P, .int .i64 C, .int .i64 H, .slice ba' bn bc] := by rw [hV]; exact Blk.new27 (by simp)
  have BV := Lib.hid bV
  have l0 := bV.cells 0 rfl
  have l1 := bV.cells 1 rfl
  have l2 := bV.cells 2 rfl
  have l7 := bV.cells 7 rfl
  have zV := bV.lt
  obtain ⟨pv2, hblk⟩ := HL.out.walk.blk
  have j2 := hblk.cells 2 (show _ = some (.int .i64 0) from rfl)
  have f2 := hblk.frozen 2
  have zS2 := hblk.lt
  have HR := Lib.hid HL.out.row
  have hwS : w.heap.size ≠ S := by omega
  clear hV hblk bV HI j1 f1
  have d1 : decide ((n : Int) < 1) = false := by simp; omega
  have d2 : decide ((2 : Int) < (n : Int)) = true := by simp; omega
  go_wp2_with fail
  go_quiet (fail)
  go_wp2
  go_ret
  exact (done_bad HL.out (by repeat (first | with_reducible exact Ext.refl _ | with_reducible apply Ext.drew | with_reducible apply Ext.drewN | with_reducible apply Ext.alloc | ((with_reducible refine Ext.setCell ?_ ?_ _); rotate_left; focus (first | (simp; done) | (simp; omega) | omega)) | with_reducible refine Ext.tr ?_ x1 | with_reducible refine Ext.tr ?_ x2 | with_reducible refine Ext.tr ?_ x5 | with_reducible refine Ext.tr ?_ xa | with_reducible refine Ext.tr ?_ xc | with_reducible refine Ext.tr ?_ hx | with_reducible refine Ext.tr ?_ hext | with_reducible assumption))).after CV.out
set_option maxHeartbeats 8000000 in
set_option maxRecDepth 100000 in
theorem rl_lin_in {B S : Nat} {w : World} {I O Z T P C H : Int} {ba' ia : Option Addr} {bn bc ic : Nat} {ps : List ParamP} {nm : Bs} {N : ByteArray} {first : Bool} {s : List Int} {n : Nat} (h : LayIn B S w (.slice ia n ic) s ps nm first) (hN : ba nm = N) (_hn : s.length = n) (h0 : 1 ≤ n) (h1 : n ≤ 2) (hne : s.getD (n - 1) 0 ≠ I) :
    Calls Tryd.prog 41 #[.pointer (some ⟨S, 0, none⟩), .agg #[.int .i64 1, .int .i64 I, .int .i64 O, .int .i64 Z, .int .i64 T, .int .i64 P, .int .i64 C, .int .i64 H, .slice ba' bn bc], .slice ia n ic, .string N] w fun e w' => DoneR B S w ps none e w' := by
  obtain ⟨pv, hblk, -⟩ := h.walk
  have j1 := hblk.cells 1 (show _ = some (.bool first) from rfl)
  have f1 := hblk.frozen 1
  have zS := hblk.lt
  have HI := Lib.hid h
  have HN := Lib.hid hN
  clear h hblk hN
  go_enter Tryd.func41, Tryd.ntmps41
  go_upto_region 4 with (fail)
  obtain ⟨V, hV⟩ : ∃ V, V = (w.setCell ⟨S, 1, none⟩ (.bool false)).alloc (.cells #[.int .i64 1, .int .i64 I, .int .i64 O, .int .i64 Z, .int .i64 T, .int .i64 P, .int .i64 C, .int .i64 H, .slice ba' bn bc] 52) := ⟨_, rfl⟩
  rw [← hV]
  have HL : Hid (LayAt B S V (.slice ia n ic) s ps nm) := Lib.hid (by rw [hV]; exact (HI.out.after (Ext.refl w)).ext ((Ext.refl _).alloc _))
  have CV : Hid (Chr B S w V) := Lib.hid (by rw [hV]; exact ((Chr.ext (Ext.refl w) HI.out.base).set).trans (Chr.ext ((Ext.refl _).alloc _) (Nat.le_trans HI.out.base (KeepsWalks.setCell w _ _).size)))
  have bV : Blk V w.heap.size 52 #[.int .i64 1, .int .i64 I, .int .i64 O, .int .i64 Z, .int .i64 T, .int .i64 P, .int .i64 C, .int .i64 H, .slice ba' bn bc] := by rw [hV]; exact Blk.new27 (by simp)
  have BV := Lib.hid bV
  have l0 := bV.cells 0 rfl
  have l1 := bV.cells 1 rfl
  have l2 := bV.cells 2 rfl
  have l7 := bV.cells 7 rfl
  have zV := bV.lt
  obtain ⟨pv2, hblk⟩ := HL.out.walk.blk
  have j2 := hblk.cells 2 (show _ = some (.int .i64 0) from rfl)
  have f2 := hblk.frozen 2
  have zS2 := hblk.lt
  have HR := Lib.hid HL.out.row
  have hwS : w.heap.size ≠ S := by omega
  clear hV hblk bV HI j1 f1
  have d1 : decide ((n : Int) < 1) = false := by simp; omega
  have d2 : decide ((2 : Int) < (n : Int)) = false := by simp; omega
  have w1 : IntKind.i64.wrap ((n : Int) - 1) = ((n - 1 : Nat) : Int) := by rw [IntKind.wrap_i64]; omega
  have i0 : (0 : Int) ≤ ((n - 1 : Nat) : Int) := by omega
  have i1 : ((n - 1 : Nat) : Int) < (n : Int) := by omega
  obtain ⟨b, o, rfl, ci⟩ := row_cell HR.out.1 (show n - 1 < n by omega)
  have zb := cell_lt ci
  simp only at zb
  obtain ⟨a, ha⟩ : ∃ a, s.getD (n - 1) 0 = a := ⟨_, rfl⟩
  rw [ha] at ci hne
  clear ha
  have tn : (a != I) = true := by simpa using hne
  clear hne
  go_wp2_with fail
  go_quiet (fail)
  go_wp2
  go_ret
  exact (done_bad HL.out (by repeat (first | with_reducible exact Ext.refl _ | with_reducible apply Ext.drew | with_reducible apply Ext.drewN | with_reducible apply Ext.alloc | ((with_reducible refine Ext.setCell ?_ ?_ _); rotate_left; focus (first | (simp; done) | (simp; omega) | omega)) | with_reducible refine Ext.tr ?_ x1 | with_reducible refine Ext.tr ?_ x2 | with_reducible refine Ext.tr ?_ x5 | with_reducible refine Ext.tr ?_ xa | with_reducible refine Ext.tr ?_ xc | with_reducible refine Ext.tr ?_ hx | with_reducible refine Ext.tr ?_ hext | with_reducible assumption))).after CV.out
set_option maxHeartbeats 8000000 in
set_option maxRecDepth 100000 in
theorem rl_lin {B S : Nat} {w : World} {I O Z T P C H : Int} {ba' ia : Option Addr} {bn bc ic : Nat} {ps : List ParamP} {nm : Bs} {N : ByteArray} {first : Bool} {s : List Int} {n : Nat} (h : LayIn B S w (.slice ia n ic) s ps nm first) (hN : ba nm = N) (hn : s.length = n) (h0 : 1 ≤ n) (h1 : n ≤ 2) (heq : s.getD (n - 1) 0 = I) :
    Calls Tryd.prog 41 #[.pointer (some ⟨S, 0, none⟩), .agg #[.int .i64 1, .int .i64 I, .int .i64 O, .int .i64 Z, .int .i64 T, .int .i64 P, .int .i64 C, .int .i64 H, .slice ba' bn bc], .slice ia n ic, .string N] w fun e w' => DoneR B S w ps (some (s.take (n - 1) ++ [O], [⟨nm ++ [46, 119], [I, O], I, O⟩, ⟨nm ++ [46, 98], [O], 0, 0⟩])) e w' := by
  obtain ⟨pv, hblk, -⟩ := h.walk
  have j1 := hblk.cells 1 (show _ = some (.bool first) from rfl)
  have f1 := hblk.frozen 1
  have zS := hblk.lt
  have HI := Lib.hid h
  have HN := Lib.hid hN
  clear h hblk hN
  go_enter Tryd.func41, Tryd.ntmps41
  go_upto_region 4 with (fail)
  obtain ⟨V, hV⟩ : ∃ V, V = (w.setCell ⟨S, 1, none⟩ (.bool false)).alloc (.cells #[.int .i64 1, .int .i64 I, .int .i64 O, .int .i64 Z, .int .i64 T, .int .i64 P, .int .i64 C, .int .i64 H, .slice ba' bn bc] 52) := ⟨_, rfl⟩
  rw [← hV]
  have HL : Hid (LayAt B S V (.slice ia n ic) s ps nm) := Lib.hid (by rw [hV]; exact (HI.out.after (Ext.refl w)).ext ((Ext.refl _).alloc _))
  have CV : Hid (Chr B S w V) := Lib.hid (by rw [hV]; exact ((Chr.ext (Ext.refl w) HI.out.base).set).trans (Chr.ext ((Ext.refl _).alloc _) (Nat.le_trans HI.out.base (KeepsWalks.setCell w _ _).size)))
  have bV : Blk V w.heap.size 52 #[.int .i64 1, .int .i64 I, .int .i64 O, .int .i64 Z, .int .i64 T, .int .i64 P, .int .i64 C, .int .i64 H, .slice ba' bn bc] := by rw [hV]; exact Blk.new27 (by simp)
  have BV := Lib.hid bV
  have l0 := bV.cells 0 rfl
  have l1 := bV.cells 1 rfl
  have l2 := bV.cells 2 rfl
  have l7 := bV.cells 7 rfl
  have zV := bV.lt
  obtain ⟨pv2, hblk⟩ := HL.out.walk.blk
  have j2 := hblk.cells 2 (show _ = some (.int .i64 0) from rfl)
  have f2 := hblk.frozen 2
  have zS2 := hblk.lt
  have HR := Lib.hid HL.out.row
  have hwS : w.heap.size ≠ S := by omega
  clear hV hblk bV HI j1 f1
  have d1 : decide ((n : Int) < 1) = false := by simp; omega
  have d2 : decide ((2 : Int) < (n : Int)) = false := by simp; omega
  have w1 : IntKind.i64.wrap ((n : Int) - 1) = ((n - 1 : Nat) : Int) := by rw [IntKind.wrap_i64]; omega
  have i0 : (0 : Int) ≤ ((n - 1 : Nat) : Int) := by omega
  have i1 : ((n - 1 : Nat) : Int) < (n : Int) := by omega
  obtain ⟨b, o, rfl, ci⟩ := row_cell HR.out.1 (show n - 1 < n by omega)
  have zb := cell_lt ci
  simp only at zb
  have sN : N.size = nm.length := by rw [← HN.out]; exact ba_size nm
  have hnm := HL.out.name
  have hfew := HL.out.few
  have hB0 := HL.out.base
  have hS0 := HL.out.low
  obtain ⟨M, hM⟩ : ∃ M, ba (nm ++ [46, 119]) = M := ⟨_, rfl⟩
  have aM := add_ba (A := N) (B := ⟨#[46, 119]⟩) (C := M) (by rw [← HN.out, ← hM, ← ba_app]; rfl) (by rw [sN]; show nm.length + 2 ≤ _; omega)
  have HM := Lib.hid hM
  clear hM
  obtain ⟨M2, hM2⟩ : ∃ M, ba (nm ++ [46, 98]) = M := ⟨_, rfl⟩
  have aM2 := add_ba (A := N) (B := ⟨#[46, 98]⟩) (C := M2) (by rw [← HN.out, ← hM2, ← ba_app]; rfl) (by rw [sN]; show nm.length + 2 ≤ _; omega)
  have HM2 := Lib.hid hM2
  clear hM2
  rw [heq] at ci
  clear heq sN
  obtain ⟨pv3, hb0, hp0⟩ := HL.out.walk
  have RP1 := Lib.hid (fun u (x : Ext V u) (sv : Value) (ho : u.ownsRow B 3 1 sv [I, O].length ([I, O].map (Value.int .i64))) => rparam_any (fi := I) (fo := O) (hb0.ext x) (hp0.ext x) (Nat.le_trans hB0 x.size) hS0 HM.out (by omega) ho)
  clear hb0 hp0
  go_wp2_with fail
  go_quiet (fail)
  rename_i nq
  obtain ⟨V1, hV1⟩ : ∃ V1, V1 = V.drewN nq := ⟨_, rfl⟩
  have xV1 : Ext V V1 := by rw [hV1]; exact (Ext.refl V).drewN _
  rw [← hV1]
  have XV1 := Lib.hid xV1
  have m1 := xV1.cell l1
  have m2 := xV1.cell l2
  have zm := cell_lt m1
  simp only at zm
  have zB1 : B ≤ V1.heap.size := Nat.le_trans hB0 xV1.size
  clear hV1 xV1 l0 l1 l2 l7 ci zb
  go_wp2_with fail
  refine (RP1.out _ (XV1.out.tr (by repeat (first | with_reducible exact Ext.refl _ | with_reducible apply Ext.drew | with_reducible apply Ext.drewN | with_reducible apply Ext.alloc | ((with_reducible refine Ext.setCell ?_ ?_ _); rotate_left; focus (first | (simp; done) | (simp; omega) | omega)) | with_reducible refine Ext.tr ?_ x1 | with_reducible refine Ext.tr ?_ x2 | with_reducible refine Ext.tr ?_ x5 | with_reducible refine Ext.tr ?_ xa | with_reducible refine Ext.tr ?_ xc | with_reducible refine Ext.tr ?_ hx | with_reducible refine Ext.tr ?_ hext | with_reducible assumption))) _ (own_base (World.ownsRow_lit V1 #[.int .i64 I, .int .i64 O] 2 (Nat.le_refl _) (by unfold maxLen; omega) rfl) zB1)).mono ?_
  rintro e v3 ⟨pa1, pc1, rfl, b3, p3, c3⟩
  have C3 := Lib.hid ((Chr.ext (B := B) (S := S) (show Ext V _ from XV1.out.tr ((Ext.refl V1).alloc _)) hB0).trans c3)
  have B3 := Lib.hid b3
  have P3 := Lib.hid p3
  have bx3 := C3.out.blk BV.out hwS (by decide)
  have n2 := bx3.cells 2 rfl
  have zn := bx3.lt
  have hz3 := C3.out.size
  clear RP1 b3 p3 c3 m1 m2 zm
  go_wp2_with fail
  refine (rparam_any (fi := 0) (fo := 0) (sh := [O]) (B3.out.ext (by repeat (first | with_reducible exact Ext.refl _ | with_reducible apply Ext.drew | with_reducible apply Ext.drewN | with_reducible apply Ext.alloc | ((with_reducible refine Ext.setCell ?_ ?_ _); rotate_left; focus (first | (simp; done) | (simp; omega) | omega)) | with_reducible refine Ext.tr ?_ x1 | with_reducible refine Ext.tr ?_ x2 | with_reducible refine Ext.tr ?_ x5 | with_reducible refine Ext.tr ?_ xa | with_reducible refine Ext.tr ?_ xc | with_reducible refine Ext.tr ?_ hx | with_reducible refine Ext.tr ?_ hext | with_reducible assumption))) (P3.out.ext (by repeat (first | with_reducible exact Ext.refl _ | with_reducible apply Ext.drew | with_reducible apply Ext.drewN | with_reducible apply Ext.alloc | ((with_reducible refine Ext.setCell ?_ ?_ _); rotate_left; focus (first | (simp; done) | (simp; omega) | omega)) | with_reducible refine Ext.tr ?_ x1 | with_reducible refine Ext.tr ?_ x2 | with_reducible refine Ext.tr ?_ x5 | with_reducible refine Ext.tr ?_ xa | with_reducible refine Ext.tr ?_ xc | with_reducible refine Ext.tr ?_ hx | with_reducible refine Ext.tr ?_ hext | with_reducible assumption))) (by simp; omega) hS0 HM2.out (by simp; omega) (own_base (World.ownsRow_lit v3 #[.int .i64 O] 1 (Nat.le_refl _) (by unfold maxLen; omega) rfl) (by omega))).mono ?_
  rintro e v4 ⟨pa2, pc2, rfl, b4, p4, c4⟩
  have C4 := Lib.hid (C3.out.trans ((Chr.ext (B := B) (S := S) (show Ext v3 _ from (Ext.refl v3).alloc _) (by omega)).trans c4))
  have B4 := Lib.hid b4
  have P4 := Lib.hid p4
  have bx4 := C4.out.blk BV.out hwS (by decide)
  have n2' := bx4.cells 2 rfl
  have zn' := bx4.lt
  have hz4 := C4.out.size
  obtain ⟨pv5, hb5⟩ := HL.out.walk.blk
  have R4 := Lib.hid (HR.out.chr C4.out (by omega) hb5 (by decide)).1
  clear bx3 bx4 b4 p4 c4 n2 zn hb5
  go_wp2_with fail
  refine (copyN_any R4.out (by omega)).mono ?_
  rintro e v5 ⟨xv, rfl, x5, o5⟩
  obtain ⟨g, cap, rfl⟩ := own_some o5 (by omega)
  rw [hn] at o5 ⊢
  obtain ⟨hg, cur, bg, hc1, hc2⟩ := own_blk27 o5
  have fz := bg.frozen (n - 1)
  have zg := bg.lt
  have kc := bg.cell (n - 1)
  have hgB : w.heap.size < g := by omega
  have O5 := Lib.hid o5
  have X5 := Lib.hid x5
  have q2 := x5.cell n2'
  have BG := Lib.hid bg
  have zq := cell_lt q2
  simp only at zq
  have kc' : v5.cell? ⟨g, n - 1, none⟩ = some (cur[n - 1]'(by omega)) := kc.trans (Array.getElem?_eq_getElem _)
  clear kc x5 o5 bg n2' zn'
  go_wp2
  go_ret
  have XX : Ext v4 (v5.setCell ⟨g, n - 1, none⟩ (.int .i64 O)) := X5.out.setCell hg _
  have hlen : (s.take (n - 1) ++ [O]).length = n := by simp; omega
  have OO := own_put27 (i := n - 1) (u := .int .i64 O) O5.out
  rw [show (s.map (Value.int .i64)).set (n - 1) (.int .i64 O) = (s.take (n - 1) ++ [O]).map (Value.int .i64) by rw [← set_last hn h0]; exact List.map_set.symm] at OO
  refine ⟨some ⟨g, 0, none⟩, s.take (n - 1) ++ [O], cap, _, _, by rw [hlen]; rfl, ?_, ⟨_, B4.out.ext XX, P4.out.ext XX⟩, (CV.out.trans C4.out).trans (Chr.ext XX (by omega)), ?_⟩
  · rw [hlen]; exact RowS.of_own OO
  · exact two_match (by rw [hlen]; omega) rfl (fun _ => rfl)
set_option maxHeartbeats 8000000 in
set_option maxRecDepth 100000 in
theorem rl_flat {B S : Nat} {w : World} {I O Z T P C H : Int} {ba' ia : Option Addr} {bn bc ic : Nat} {ps : List ParamP} {nm : Bs} {N : ByteArray} {first : Bool} {s : List Int} {n : Nat} (h : LayIn B S w (.slice ia n ic) s ps nm first) (hN : ba nm = N) (hn : s.length = n) :
    Calls Tryd.prog 41 #[.pointer (some ⟨S, 0, none⟩), .agg #[.int .i64 10, .int .i64 I, .int .i64 O, .int .i64 Z, .int .i64 T, .int .i64 P, .int .i64 C, .int .i64 H, .slice ba' bn bc], .slice ia n ic, .string N] w fun e w' => DoneR B S w ps (some ([pr s], [])) e w' := by
  obtain ⟨pv, hblk, -⟩ := h.walk
  have j1 := hblk.cells 1 (show _ = some (.bool first) from rfl)
  have f1 := hblk.frozen 1
  have zS := hblk.lt
  have HI := Lib.hid h
  have HN := Lib.hid hN
  clear h hblk hN
  go_enter Tryd.func41, Tryd.ntmps41
  go_upto_region 4 with (fail)
  obtain ⟨V, hV⟩ : ∃ V, V = (w.setCell ⟨S, 1, none⟩ (.bool false)).alloc (.cells #[.int .i64 10, .int .i64 I, .int .i64 O, .int .i64 Z, .int .i64 T, .int .i64 P, .int .i64 C, .int .i64 H, .slice ba' bn bc] 52) := ⟨_, rfl⟩
  rw [← hV]
  have HL : Hid (LayAt B S V (.slice ia n ic) s ps nm) := Lib.hid (by rw [hV]; exact (HI.out.after (Ext.refl w)).ext ((Ext.refl _).alloc _))
  have CV : Hid (Chr B S w V) := Lib.hid (by rw [hV]; exact ((Chr.ext (Ext.refl w) HI.out.base).set).trans (Chr.ext ((Ext.refl _).alloc _) (Nat.le_trans HI.out.base (KeepsWalks.setCell w _ _).size)))
  have bV : Blk V w.heap.size 52 #[.int .i64 10, .int .i64 I, .int .i64 O, .int .i64 Z, .int .i64 T, .int .i64 P, .int .i64 C, .int .i64 H, .slice ba' bn bc] := by rw [hV]; exact Blk.new27 (by simp)
  have BV := Lib.hid bV
  have l0 := bV.cells 0 rfl
  have l1 := bV.cells 1 rfl
  have l2 := bV.cells 2 rfl
  have l7 := bV.cells 7 rfl
  have zV := bV.lt
  obtain ⟨pv2, hblk⟩ := HL.out.walk.blk
  have j2 := hblk.cells 2 (show _ = some (.int .i64 0) from rfl)
  have f2 := hblk.frozen 2
  have zS2 := hblk.lt
  have HR := Lib.hid HL.out.row
  have hwS : w.heap.size ≠ S := by omega
  clear hV hblk bV HI j1 f1
  subst hn
  obtain ⟨dl, dd, dp, dq⟩ := fullS_dims HL.out.dim
  have CN := Lib.hid (fun u (x : Ext V u) => count_any (HR.out.1.ext x) ⟨by omega, dd⟩)
  rw [show cnt s = pr s from if_pos dq] at CN
  obtain ⟨c, hc⟩ : ∃ c, pr s = c := ⟨_, rfl⟩
  rw [hc] at CN
  have HC := Lib.hid hc
  have hB0 := HL.out.base
  have hS0 := HL.out.low
  clear hc dd dp dq
  go_wp2_with fail
  refine (CN.out _ (by repeat (first | with_reducible exact Ext.refl _ | with_reducible apply Ext.drew | with_reducible apply Ext.drewN | with_reducible apply Ext.alloc | ((with_reducible refine Ext.setCell ?_ ?_ _); rotate_left; focus (first | (simp; done) | (simp; omega) | omega)) | with_reducible refine Ext.tr ?_ x1 | with_reducible refine Ext.tr ?_ x2 | with_reducible refine Ext.tr ?_ x5 | with_reducible refine Ext.tr ?_ xa | with_reducible refine Ext.tr ?_ xc | with_reducible refine Ext.tr ?_ hx | with_reducible refine Ext.tr ?_ hext | with_reducible assumption))).mono ?_
  rintro e w' ⟨rfl, rfl⟩
  go_wp2
  go_ret
  have x : Ext V (V.alloc (.cells #[.int .i64 c] 3)) := (Ext.refl V).alloc _
  rw [HC.out]
  refine ⟨some ⟨V.heap.size, 0, none⟩, [c], 1, 0, ps, rfl, RowS.of_own (base := V.heap.size) (World.ownsRow_lit V #[.int .i64 c] 1 (Nat.le_refl _) (by unfold maxLen; omega) rfl), HL.out.walk.ext x, CV.out.trans (Chr.ext x hB0), by simp⟩
set_option maxHeartbeats 8000000 in
set_option maxRecDepth 100000 in
theorem rl_emb_n {B S : Nat} {w : World} {I O Z T P C H : Int} {ba' ia : Option Addr} {bn bc ic : Nat} {ps : List ParamP} {nm : Bs} {N : ByteArray} {first : Bool} {s : List Int} {n : Nat} (h : LayIn B S w (.slice ia n ic) s ps nm first) (hN : ba nm = N) (_hn : s.length = n) (hf : first = false) :
    Calls Tryd.prog 41 #[.pointer (some ⟨S, 0, none⟩), .agg #[.int .i64 11, .int .i64 I, .int .i64 O, .int .i64 Z, .int .i64 T, .int .i64 P, .int .i64 C, .int .i64 H, .slice ba' bn bc], .slice ia n ic, .string N] w fun e w' => DoneR B S w ps none e w' := by
  obtain ⟨pv, hblk, -⟩ := h.walk
  have j1 := hblk.cells 1 (show _ = some (.bool first) from rfl)
  have f1 := hblk.frozen 1
  have zS := hblk.lt
  have HI := Lib.hid h
  have HN := Lib.hid hN
  clear h hblk hN
  go_enter Tryd.func41, Tryd.ntmps41
  go_upto_region 4 with (fail)
  obtain ⟨V, hV⟩ : ∃ V, V = (w.setCell ⟨S, 1, none⟩ (.bool false)).alloc (.cells #[.int .i64 11, .int .i64 I, .int .i64 O, .int .i64 Z, .int .i64 T, .int .i64 P, .int .i64 C, .int .i64 H, .slice ba' bn bc] 52) := ⟨_, rfl⟩
  rw [← hV]
  have HL : Hid (LayAt B S V (.slice ia n ic) s ps nm) := Lib.hid (by rw [hV]; exact (HI.out.after (Ext.refl w)).ext ((Ext.refl _).alloc _))
  have CV : Hid (Chr B S w V) := Lib.hid (by rw [hV]; exact ((Chr.ext (Ext.refl w) HI.out.base).set).trans (Chr.ext ((Ext.refl _).alloc _) (Nat.le_trans HI.out.base (KeepsWalks.setCell w _ _).size)))
  have bV : Blk V w.heap.size 52 #[.int .i64 11, .int .i64 I, .int .i64 O, .int .i64 Z, .int .i64 T, .int .i64 P, .int .i64 C, .int .i64 H, .slice ba' bn bc] := by rw [hV]; exact Blk.new27 (by simp)
  have BV := Lib.hid bV
  have l0 := bV.cells 0 rfl
  have l1 := bV.cells 1 rfl
  have l2 := bV.cells 2 rfl
  have l7 := bV.cells 7 rfl
  have zV := bV.lt
  obtain ⟨pv2, hblk⟩ := HL.out.walk.blk
  have j2 := hblk.cells 2 (show _ = some (.int .i64 0) from rfl)
  have f2 := hblk.frozen 2
  have zS2 := hblk.lt
  have HR := Lib.hid HL.out.row
  have hwS : w.heap.size ≠ S := by omega
  clear hV hblk bV HI j1 f1
  subst hf
  go_wp2
  go_ret
  exact (done_bad HL.out (by repeat (first | with_reducible exact Ext.refl _ | with_reducible apply Ext.drew | with_reducible apply Ext.drewN | with_reducible apply Ext.alloc | ((with_reducible refine Ext.setCell ?_ ?_ _); rotate_left; focus (first | (simp; done) | (simp; omega) | omega)) | with_reducible refine Ext.tr ?_ x1 | with_reducible refine Ext.tr ?_ x2 | with_reducible refine Ext.tr ?_ x5 | with_reducible refine Ext.tr ?_ xa | with_reducible refine Ext.tr ?_ xc | with_reducible refine Ext.tr ?_ hx | with_reducible refine Ext.tr ?_ hext | with_reducible assumption))).after CV.out
set_option maxHeartbeats 8000000 in
set_option maxRecDepth 100000 in
theorem rl_emb_l {B S : Nat} {w : World} {I O Z T P C H : Int} {ba' ia : Option Addr} {bn bc ic : Nat} {ps : List ParamP} {nm : Bs} {N : ByteArray} {first : Bool} {s : List Int} {n : Nat} (h : LayIn B S w (.slice ia n ic) s ps nm first) (hN : ba nm = N) (_hn : s.length = n) (hf : first = true) (h1 : n ≠ 1) :
    Calls Tryd.prog 41 #[.pointer (some ⟨S, 0, none⟩), .agg #[.int .i64 11, .int .i64 I, .int .i64 O, .int .i64 Z, .int .i64 T, .int .i64 P, .int .i64 C, .int .i64 H, .slice ba' bn bc], .slice ia n ic, .string N] w fun e w' => DoneR B S w ps none e w' := by
  obtain ⟨pv, hblk, -⟩ := h.walk
  have j1 := hblk.cells 1 (show _ = some (.bool first) from rfl)
  have f1 := hblk.frozen 1
  have zS := hblk.lt
  have HI := Lib.hid h
  have HN := Lib.hid hN
  clear h hblk hN
  go_enter Tryd.func41, Tryd.ntmps41
  go_upto_region 4 with (fail)
  obtain ⟨V, hV⟩ : ∃ V, V = (w.setCell ⟨S, 1, none⟩ (.bool false)).alloc (.cells #[.int .i64 11, .int .i64 I, .int .i64 O, .int .i64 Z, .int .i64 T, .int .i64 P, .int .i64 C, .int .i64 H, .slice ba' bn bc] 52) := ⟨_, rfl⟩
  rw [← hV]
  have HL : Hid (LayAt B S V (.slice ia n ic) s ps nm) := Lib.hid (by rw [hV]; exact (HI.out.after (Ext.refl w)).ext ((Ext.refl _).alloc _))
  have CV : Hid (Chr B S w V) := Lib.hid (by rw [hV]; exact ((Chr.ext (Ext.refl w) HI.out.base).set).trans (Chr.ext ((Ext.refl _).alloc _) (Nat.le_trans HI.out.base (KeepsWalks.setCell w _ _).size)))
  have bV : Blk V w.heap.size 52 #[.int .i64 11, .int .i64 I, .int .i64 O, .int .i64 Z, .int .i64 T, .int .i64 P, .int .i64 C, .int .i64 H, .slice ba' bn bc] := by rw [hV]; exact Blk.new27 (by simp)
  have BV := Lib.hid bV
  have l0 := bV.cells 0 rfl
  have l1 := bV.cells 1 rfl
  have l2 := bV.cells 2 rfl
  have l7 := bV.cells 7 rfl
  have zV := bV.lt
  obtain ⟨pv2, hblk⟩ := HL.out.walk.blk
  have j2 := hblk.cells 2 (show _ = some (.int .i64 0) from rfl)
  have f2 := hblk.frozen 2
  have zS2 := hblk.lt
  have HR := Lib.hid HL.out.row
  have hwS : w.heap.size ≠ S := by omega
  clear hV hblk bV HI j1 f1
  subst hf
  have tn : ((n : Int) != 1) = true := by simp; omega
  go_wp2
  go_ret
  exact (done_bad HL.out (by repeat (first | with_reducible exact Ext.refl _ | with_reducible apply Ext.drew | with_reducible apply Ext.drewN | with_reducible apply Ext.alloc | ((with_reducible refine Ext.setCell ?_ ?_ _); rotate_left; focus (first | (simp; done) | (simp; omega) | omega)) | with_reducible refine Ext.tr ?_ x1 | with_reducible refine Ext.tr ?_ x2 | with_reducible refine Ext.tr ?_ x5 | with_reducible refine Ext.tr ?_ xa | with_reducible refine Ext.tr ?_ xc | with_reducible refine Ext.tr ?_ hx | with_reducible refine Ext.tr ?_ hext | with_reducible assumption))).after CV.out
set_option maxHeartbeats 8000000 in
set_option maxRecDepth 100000 in
theorem rl_emb {B S : Nat} {w : World} {I O Z T P C H : Int} {ba' ia : Option Addr} {bn bc ic : Nat} {ps : List ParamP} {nm : Bs} {N : ByteArray} {first : Bool} {a : Int} (h : LayIn B S w (.slice ia 1 ic) [a] ps nm first) (hN : ba nm = N) (hf : first = true) :
    Calls Tryd.prog 41 #[.pointer (some ⟨S, 0, none⟩), .agg #[.int .i64 11, .int .i64 I, .int .i64 O, .int .i64 Z, .int .i64 T, .int .i64 P, .int .i64 C, .int .i64 H, .slice ba' bn bc], .slice ia 1 ic, .string N] w fun e w' => DoneR B S w ps (some ([a, O], [⟨nm ++ [46, 116], [I, O], I, O⟩])) e w' := by
  obtain ⟨pv, hblk, -⟩ := h.walk
  have j1 := hblk.cells 1 (show _ = some (.bool first) from rfl)
  have f1 := hblk.frozen 1
  have zS := hblk.lt
  have HI := Lib.hid h
  have HN := Lib.hid hN
  clear h hblk hN
  go_enter Tryd.func41, Tryd.ntmps41
  go_upto_region 4 with (fail)
  obtain ⟨V, hV⟩ : ∃ V, V = (w.setCell ⟨S, 1, none⟩ (.bool false)).alloc (.cells #[.int .i64 11, .int .i64 I, .int .i64 O, .int .i64 Z, .int .i64 T, .int .i64 P, .int .i64 C, .int .i64 H, .slice ba' bn bc] 52) := ⟨_, rfl⟩
  rw [← hV]
  have HL : Hid (LayAt B S V (.slice ia 1 ic) [a] ps nm) := Lib.hid (by rw [hV]; exact (HI.out.after (Ext.refl w)).ext ((Ext.refl _).alloc _))
  have CV : Hid (Chr B S w V) := Lib.hid (by rw [hV]; exact ((Chr.ext (Ext.refl w) HI.out.base).set).trans (Chr.ext ((Ext.refl _).alloc _) (Nat.le_trans HI.out.base (KeepsWalks.setCell w _ _).size)))
  have bV : Blk V w.heap.size 52 #[.int .i64 11, .int .i64 I, .int .i64 O, .int .i64 Z, .int .i64 T, .int .i64 P, .int .i64 C, .int .i64 H, .slice ba' bn bc] := by rw [hV]; exact Blk.new27 (by simp)
  have BV := Lib.hid bV
  have l0 := bV.cells 0 rfl
  have l1 := bV.cells 1 rfl
  have l2 := bV.cells 2 rfl
  have l7 := bV.cells 7 rfl
  have zV := bV.lt
  obtain ⟨pv2, hblk⟩ := HL.out.walk.blk
  have j2 := hblk.cells 2 (show _ = some (.int .i64 0) from rfl)
  have f2 := hblk.frozen 2
  have zS2 := hblk.lt
  have HR := Lib.hid HL.out.row
  have hwS : w.heap.size ≠ S := by omega
  clear hV hblk bV HI j1 f1
  subst hf
  have sN : N.size = nm.length := by rw [← HN.out]; exact ba_size nm
  have hnm := HL.out.name
  have hfew := HL.out.few
  have hB0 := HL.out.base
  have hS0 := HL.out.low
  obtain ⟨M, hM⟩ : ∃ M, ba (nm ++ [46, 116]) = M := ⟨_, rfl⟩
  have aM := add_ba (A := N) (B := ⟨#[46, 116]⟩) (C := M) (by rw [← HN.out, ← hM, ← ba_app]; rfl) (by rw [sN]; show nm.length + 2 ≤ _; omega)
  have HM := Lib.hid hM
  clear hM
  clear sN
  obtain ⟨b, o, rfl, ci⟩ := row_cell HR.out.1 (show 0 < 1 by omega)
  simp only [List.getD_cons_zero, Nat.add_zero] at ci
  have zb := cell_lt ci
  simp only at zb
  obtain ⟨pv3, hb0, hp0⟩ := HL.out.walk
  have RP1 := Lib.hid (fun u (x : Ext V u) (sv : Value) (ho : u.ownsRow B 3 1 sv [I, O].length ([I, O].map (Value.int .i64))) => rparam_any (fi := I) (fo := O) (hb0.ext x) (hp0.ext x) (Nat.le_trans hB0 x.size) hS0 HM.out (by omega) ho)
  clear hb0 hp0
  have zB1 : B ≤ V.heap.size := hB0
  clear l7
  go_wp2_with fail
  refine (RP1.out _ (by repeat (first | with_reducible exact Ext.refl _ | with_reducible apply Ext.drew | with_reducible apply Ext.drewN | with_reducible apply Ext.alloc | ((with_reducible refine Ext.setCell ?_ ?_ _); rotate_left; focus (first | (simp; done) | (simp; omega) | omega)) | with_reducible refine Ext.tr ?_ x1 | with_reducible refine Ext.tr ?_ x2 | with_reducible refine Ext.tr ?_ x5 | with_reducible refine Ext.tr ?_ xa | with_reducible refine Ext.tr ?_ xc | with_reducible refine Ext.tr ?_ hx | with_reducible refine Ext.tr ?_ hext | with_reducible assumption)) _ (own_base (World.ownsRow_lit V #[.int .i64 I, .int .i64 O] 2 (Nat.le_refl _) (by unfold maxLen; omega) rfl) zB1)).mono ?_
  rintro e v3 ⟨pa1, pc1, rfl, b3, p3, c3⟩
  have C3 := Lib.hid ((Chr.ext (B := B) (S := S) (show Ext V _ from (Ext.refl V).alloc _) hB0).trans c3)
  have B3 := Lib.hid b3
  have P3 := Lib.hid p3
  have bx3 := C3.out.blk BV.out hwS (by decide)
  have n2 := bx3.cells 2 rfl
  have zn := bx3.lt
  have hz3 := C3.out.size
  obtain ⟨pv5, hb5⟩ := HL.out.walk.blk
  obtain ⟨b', o', e', ci3⟩ := row_cell (HR.out.chr C3.out (by omega) hb5 (by decide)).1 (show 0 < 1 by omega)
  cases e'
  simp only [List.getD_cons_zero, Nat.add_zero] at ci3
  have zb3 := cell_lt ci3
  simp only at zb3
  clear RP1 b3 p3 c3 l1 l2 zV ci zb hb5
  go_wp2_with fail
  go_region_held3 (fun w' => w'.cell? ⟨b, o, none⟩ = some (.int .i64 a) ∧ w'.cell? ⟨w.heap.size, 2, none⟩ = some (.int .i64 O) ∧ b < w'.heap.size ∧ w.heap.size < w'.heap.size ∧ Ext v3 w')
    (refine ⟨?_, ?_, ?_, ?_, ?_⟩ <;> first | (simp [go_sem, *]; done) | omega | (simp at z1; omega) | (simp at z2; omega) | (simp at z3; omega) | (simp at z4; omega) | exact (by repeat (first | with_reducible exact Ext.refl _ | with_reducible apply Ext.drew | with_reducible apply Ext.drewN | with_reducible apply Ext.alloc | ((with_reducible refine Ext.setCell ?_ ?_ _); rotate_left; focus (first | (simp; done) | (simp; omega) | omega)) | with_reducible refine Ext.tr ?_ x1 | with_reducible refine Ext.tr ?_ x2 | with_reducible refine Ext.tr ?_ x5 | with_reducible refine Ext.tr ?_ xa | with_reducible refine Ext.tr ?_ xc | with_reducible refine Ext.tr ?_ hx | with_reducible refine Ext.tr ?_ hext | with_reducible assumption)))
    (fail)
  all_goals
    go_wp2
    go_ret
  · have x : Ext v3 ((v3.alloc (.cells #[.int .i64 a, .int .i64 O] 3)).drew) := ((Ext.refl v3).alloc _).drew
    exact ⟨some ⟨v3.heap.size, 0, none⟩, [a, O], 2, _, _, rfl, RowS.of_own (base := v3.heap.size) ((World.ownsRow_lit v3 #[.int .i64 a, .int .i64 O] 2 (Nat.le_refl _) (by unfold maxLen; omega) rfl).drew), ⟨_, B3.out.ext x, P3.out.ext x⟩, (CV.out.trans C3.out).trans (Chr.ext x (by omega)), one_match (by simp)⟩
set_option maxHeartbeats 8000000 in
set_option maxRecDepth 100000 in
theorem rl_att_l {B S : Nat} {w : World} {I O Z T P C H : Int} {ba' ia : Option Addr} {bn bc ic : Nat} {ps : List ParamP} {nm : Bs} {N : ByteArray} {first : Bool} {s : List Int} {n : Nat} (h : LayIn B S w (.slice ia n ic) s ps nm first) (hN : ba nm = N) (_hn : s.length = n) (h2 : n ≠ 2) :
    Calls Tryd.prog 41 #[.pointer (some ⟨S, 0, none⟩), .agg #[.int .i64 12, .int .i64 I, .int .i64 O, .int .i64 Z, .int .i64 T, .int .i64 P, .int .i64 C, .int .i64 H, .slice ba' bn bc], .slice ia n ic, .string N] w fun e w' => DoneR B S w ps none e w' := by
  obtain ⟨pv, hblk, -⟩ := h.walk
  have j1 := hblk.cells 1 (show _ = some (.bool first) from rfl)
  have f1 := hblk.frozen 1
  have zS := hblk.lt
  have HI := Lib.hid h
  have HN := Lib.hid hN
  clear h hblk hN
  go_enter Tryd.func41, Tryd.ntmps41
  go_upto_region 4 with (fail)
  obtain ⟨V, hV⟩ : ∃ V, V = (w.setCell ⟨S, 1, none⟩ (.bool false)).alloc (.cells #[.int .i64 12, .int .i64 I, .int .i64 O, .int .i64 Z, .int .i64 T, .int .i64 P, .int .i64 C, .int .i64 H, .slice ba' bn bc] 52) := ⟨_, rfl⟩
  rw [← hV]
  have HL : Hid (LayAt B S V (.slice ia n ic) s ps nm) := Lib.hid (by rw [hV]; exact (HI.out.after (Ext.refl w)).ext ((Ext.refl _).alloc _))
  have CV : Hid (Chr B S w V) := Lib.hid (by rw [hV]; exact ((Chr.ext (Ext.refl w) HI.out.base).set).trans (Chr.ext ((Ext.refl _).alloc _) (Nat.le_trans HI.out.base (KeepsWalks.setCell w _ _).size)))
  have bV : Blk V w.heap.size 52 #[.int .i64 12, .int .i64 I, .int .i64 O, .int .i64 Z, .int .i64 T, .int .i64 P, .int .i64 C, .int .i64 H, .slice ba' bn bc] := by rw [hV]; exact Blk.new27 (by simp)
  have BV := Lib.hid bV
  have l0 := bV.cells 0 rfl
  have l1 := bV.cells 1 rfl
  have l2 := bV.cells 2 rfl
  have l7 := bV.cells 7 rfl
  have zV := bV.lt
  obtain ⟨pv2, hblk⟩ := HL.out.walk.blk
  have j2 := hblk.cells 2 (show _ = some (.int .i64 0) from rfl)
  have f2 := hblk.frozen 2
  have zS2 := hblk.lt
  have HR := Lib.hid HL.out.row
  have hwS : w.heap.size ≠ S := by omega
  clear hV hblk bV HI j1 f1
  have tn : ((n : Int) != 2) = true := by simp; omega
  go_wp2_with fail
  go_quiet (fail)
  go_wp2
  go_ret
  exact (done_bad HL.out (by repeat (first | with_reducible exact Ext.refl _ | with_reducible apply Ext.drew | with_reducible apply Ext.drewN | with_reducible apply Ext.alloc | ((with_reducible refine Ext.setCell ?_ ?_ _); rotate_left; focus (first | (simp; done) | (simp; omega) | omega)) | with_reducible refine Ext.tr ?_ x1 | with_reducible refine Ext.tr ?_ x2 | with_reducible refine Ext.tr ?_ x5 | with_reducible refine Ext.tr ?_ xa | with_reducible refine Ext.tr ?_ xc | with_reducible refine Ext.tr ?_ hx | with_reducible refine Ext.tr ?_ hext | with_reducible assumption))).after CV.out
set_option maxHeartbeats 8000000 in
set_option maxRecDepth 100000 in
theorem rl_att_i {B S : Nat} {w : World} {I O Z T P C H : Int} {ba' ia : Option Addr} {bn bc ic : Nat} {ps : List ParamP} {nm : Bs} {N : ByteArray} {first : Bool} {a a2 : Int} (h : LayIn B S w (.slice ia 2 ic) [a, a2] ps nm first) (hN : ba nm = N) (hne : a2 ≠ I) :
    Calls Tryd.prog 41 #[.pointer (some ⟨S, 0, none⟩), .agg #[.int .i64 12, .int .i64 I, .int .i64 O, .int .i64 Z, .int .i64 T, .int .i64 P, .int .i64 C, .int .i64 H, .slice ba' bn bc], .slice ia 2 ic, .string N] w fun e w' => DoneR B S w ps none e w' := by
  obtain ⟨pv, hblk, -⟩ := h.walk
  have j1 := hblk.cells 1 (show _ = some (.bool first) from rfl)
  have f1 := hblk.frozen 1
  have zS := hblk.lt
  have HI := Lib.hid h
  have HN := Lib.hid hN
  clear h hblk hN
  go_enter Tryd.func41, Tryd.ntmps41
  go_upto_region 4 with (fail)
  obtain ⟨V, hV⟩ : ∃ V, V = (w.setCell ⟨S, 1, none⟩ (.bool false)).alloc (.cells #[.int .i64 12, .int .i64 I, .int .i64 O, .int .i64 Z, .int .i64 T, .int .i64 P, .int .i64 C, .int .i64 H, .slice ba' bn bc] 52) := ⟨_, rfl⟩
  rw [← hV]
  have HL : Hid (LayAt B S V (.slice ia 2 ic) [a, a2] ps nm) := Lib.hid (by rw [hV]; exact (HI.out.after (Ext.refl w)).ext ((Ext.refl _).alloc _))
  have CV : Hid (Chr B S w V) := Lib.hid (by rw [hV]; exact ((Chr.ext (Ext.refl w) HI.out.base).set).trans (Chr.ext ((Ext.refl _).alloc _) (Nat.le_trans HI.out.base (KeepsWalks.setCell w _ _).size)))
  have bV : Blk V w.heap.size 52 #[.int .i64 12, .int .i64 I, .int .i64 O, .int .i64 Z, .int .i64 T, .int .i64 P, .int .i64 C, .int .i64 H, .slice ba' bn bc] := by rw [hV]; exact Blk.new27 (by simp)
  have BV := Lib.hid bV
  have l0 := bV.cells 0 rfl
  have l1 := bV.cells 1 rfl
  have l2 := bV.cells 2 rfl
  have l7 := bV.cells 7 rfl
  have zV := bV.lt
  obtain ⟨pv2, hblk⟩ := HL.out.walk.blk
  have j2 := hblk.cells 2 (show _ = some (.int .i64 0) from rfl)
  have f2 := hblk.frozen 2
  have zS2 := hblk.lt
  have HR := Lib.hid HL.out.row
  have hwS : w.heap.size ≠ S := by omega
  clear hV hblk bV HI j1 f1
  obtain ⟨b, o, rfl, ci⟩ := row_cell HR.out.1 (show 1 < 2 by omega)
  simp only [List.getD_cons_succ, List.getD_cons_zero] at ci
  have zb := cell_lt ci
  simp only at zb
  have tn : (a2 != I) = true := by simpa using hne
  clear hne
  go_wp2_with fail
  go_quiet (fail)
  go_wp2
  go_ret
  exact (done_bad HL.out (by repeat (first | with_reducible exact Ext.refl _ | with_reducible apply Ext.drew | with_reducible apply Ext.drewN | with_reducible apply Ext.alloc | ((with_reducible refine Ext.setCell ?_ ?_ _); rotate_left; focus (first | (simp; done) | (simp; omega) | omega)) | with_reducible refine Ext.tr ?_ x1 | with_reducible refine Ext.tr ?_ x2 | with_reducible refine Ext.tr ?_ x5 | with_reducible refine Ext.tr ?_ xa | with_reducible refine Ext.tr ?_ xc | with_reducible refine Ext.tr ?_ hx | with_reducible refine Ext.tr ?_ hext | with_reducible assumption))).after CV.out
set_option maxHeartbeats 8000000 in
set_option maxRecDepth 100000 in
theorem rl_att_h {B S : Nat} {w : World} {I O Z T P C H : Int} {ba' ia : Option Addr} {bn bc ic : Nat} {ps : List ParamP} {nm : Bs} {N : ByteArray} {first : Bool} {a : Int} (h : LayIn B S w (.slice ia 2 ic) [a, I] ps nm first) (hN : ba nm = N) (hH : 1 ≤ H) (hI : 0 ≤ I) (hm : I % H ≠ 0) :
    Calls Tryd.prog 41 #[.pointer (some ⟨S, 0, none⟩), .agg #[.int .i64 12, .int .i64 I, .int .i64 O, .int .i64 Z, .int .i64 T, .int .i64 P, .int .i64 C, .int .i64 H, .slice ba' bn bc], .slice ia 2 ic, .string N] w fun e w' => DoneR B S w ps none e w' := by
  obtain ⟨pv, hblk, -⟩ := h.walk
  have j1 := hblk.cells 1 (show _ = some (.bool first) from rfl)
  have f1 := hblk.frozen 1
  have zS := hblk.lt
  have HI := Lib.hid h
  have HN := Lib.hid hN
  clear h hblk hN
  go_enter Tryd.func41, Tryd.ntmps41
  go_upto_region 4 with (fail)
  obtain ⟨V, hV⟩ : ∃ V, V = (w.setCell ⟨S, 1, none⟩ (.bool false)).alloc (.cells #[.int .i64 12, .int .i64 I, .int .i64 O, .int .i64 Z, .int .i64 T, .int .i64 P, .int .i64 C, .int .i64 H, .slice ba' bn bc] 52) := ⟨_, rfl⟩
  rw [← hV]
  have HL : Hid (LayAt B S V (.slice ia 2 ic) [a, I] ps nm) := Lib.hid (by rw [hV]; exact (HI.out.after (Ext.refl w)).ext ((Ext.refl _).alloc _))
  have CV : Hid (Chr B S w V) := Lib.hid (by rw [hV]; exact ((Chr.ext (Ext.refl w) HI.out.base).set).trans (Chr.ext ((Ext.refl _).alloc _) (Nat.le_trans HI.out.base (KeepsWalks.setCell w _ _).size)))
  have bV : Blk V w.heap.size 52 #[.int .i64 12, .int .i64 I, .int .i64 O, .int .i64 Z, .int .i64 T, .int .i64 P, .int .i64 C, .int .i64 H, .slice ba' bn bc] := by rw [hV]; exact Blk.new27 (by simp)
  have BV := Lib.hid bV
  have l0 := bV.cells 0 rfl
  have l1 := bV.cells 1 rfl
  have l2 := bV.cells 2 rfl
  have l7 := bV.cells 7 rfl
  have zV := bV.lt
  obtain ⟨pv2, hblk⟩ := HL.out.walk.blk
  have j2 := hblk.cells 2 (show _ = some (.int .i64 0) from rfl)
  have f2 := hblk.frozen 2
  have zS2 := hblk.lt
  have HR := Lib.hid HL.out.row
  have hwS : w.heap.size ≠ S := by omega
  clear hV hblk bV HI j1 f1
  obtain ⟨b, o, rfl, ci⟩ := row_cell HR.out.1 (show 1 < 2 by omega)
  simp only [List.getD_cons_succ, List.getD_cons_zero] at ci
  have zb := cell_lt ci
  simp only at zb
  have hH0 : ¬ H = 0 := by omega
  have tm : I.tmod H = I % H := Int.tmod_eq_emod_of_nonneg hI
  have tn : (I % H != 0) = true := by simpa using hm
  clear hm hH
  go_wp2_with fail
  go_quiet (fail)
  go_wp2
  go_ret
  exact (done_bad HL.out (by repeat (first | with_reducible exact Ext.refl _ | with_reducible apply Ext.drew | with_reducible apply Ext.drewN | with_reducible apply Ext.alloc | ((with_reducible refine Ext.setCell ?_ ?_ _); rotate_left; focus (first | (simp; done) | (simp; omega) | omega)) | with_reducible refine Ext.tr ?_ x1 | with_reducible refine Ext.tr ?_ x2 | with_reducible refine Ext.tr ?_ x5 | with_reducible refine Ext.tr ?_ xa | with_reducible refine Ext.tr ?_ xc | with_reducible refine Ext.tr ?_ hx | with_reducible refine Ext.tr ?_ hext | with_reducible assumption))).after CV.out
set_option maxHeartbeats 8000000 in
set_option maxRecDepth 100000 in
theorem rl_att {B S : Nat} {w : World} {I O Z T P C H : Int} {ba' ia : Option Addr} {bn bc ic : Nat} {ps : List ParamP} {nm : Bs} {N : ByteArray} {first : Bool} {a : Int} (h : LayIn B S w (.slice ia 2 ic) [a, I] ps nm first) (hN : ba nm = N) (hH : 1 ≤ H) (hI : 0 ≤ I) (hm : I % H = 0) :
    Calls Tryd.prog 41 #[.pointer (some ⟨S, 0, none⟩), .agg #[.int .i64 12, .int .i64 I, .int .i64 O, .int .i64 Z, .int .i64 T, .int .i64 P, .int .i64 C, .int .i64 H, .slice ba' bn bc], .slice ia 2 ic, .string N] w fun e w' => DoneR B S w ps (some ([a, I], attL.map (attP nm I))) e w' := by
  obtain ⟨pv, hblk, -⟩ := h.walk
  have j1 := hblk.cells 1 (show _ = some (.bool first) from rfl)
  have f1 := hblk.frozen 1
  have zS := hblk.lt
  have HI := Lib.hid h
  have HN := Lib.hid hN
  clear h hblk hN
  go_enter Tryd.func41, Tryd.ntmps41
  go_upto_region 4 with (fail)
  obtain ⟨V, hV⟩ : ∃ V, V = (w.setCell ⟨S, 1, none⟩ (.bool false)).alloc (.cells #[.int .i64 12, .int .i64 I, .int .i64 O, .int .i64 Z, .int .i64 T, .int .i64 P, .int .i64 C, .int .i64 H, .slice ba' bn bc] 52) := ⟨_, rfl⟩
  rw [← hV]
  have HL : Hid (LayAt B S V (.slice ia 2 ic) [a, I] ps nm) := Lib.hid (by rw [hV]; exact (HI.out.after (Ext.refl w)).ext ((Ext.refl _).alloc _))
  have CV : Hid (Chr B S w V) := Lib.hid (by rw [hV]; exact ((Chr.ext (Ext.refl w) HI.out.base).set).trans (Chr.ext ((Ext.refl _).alloc _) (Nat.le_trans HI.out.base (KeepsWalks.setCell w _ _).size)))
  have bV : Blk V w.heap.size 52 #[.int .i64 12, .int .i64 I, .int .i64 O, .int .i64 Z, .int .i64 T, .int .i64 P, .int .i64 C, .int .i64 H, .slice ba' bn bc] := by rw [hV]; exact Blk.new27 (by simp)
  have BV := Lib.hid bV
  have l0 := bV.cells 0 rfl
  have l1 := bV.cells 1 rfl
  have l2 := bV.cells 2 rfl
  have l7 := bV.cells 7 rfl
  have zV := bV.lt
  obtain ⟨pv2, hblk⟩ := HL.out.walk.blk
  have j2 := hblk.cells 2 (show _ = some (.int .i64 0) from rfl)
  have f2 := hblk.frozen 2
  have zS2 := hblk.lt
  have HR := Lib.hid HL.out.row
  have hwS : w.heap.size ≠ S := by omega
  clear hV hblk bV HI j1 f1
  obtain ⟨b, o, rfl, ci⟩ := row_cell HR.out.1 (show 1 < 2 by omega)
  simp only [List.getD_cons_succ, List.getD_cons_zero] at ci
  have zb := cell_lt ci
  simp only at zb
  have hH0 : ¬ H = 0 := by omega
  have tm : I.tmod H = 0 := by rw [Int.tmod_eq_emod_of_nonneg hI]; exact hm
  have sN : N.size = nm.length := by rw [← HN.out]; exact ba_size nm
  have hnm := HL.out.name
  have hfew := HL.out.few
  have hB0 := HL.out.base
  have hS0 := HL.out.low
  clear hm hH
  go_wp2_with fail
  go_quiet (fail)
  rename_i nq
  obtain ⟨V1, hV1⟩ : ∃ V1, V1 = V.drewN nq := ⟨_, rfl⟩
  have xV1 : Ext V V1 := by rw [hV1]; exact (Ext.refl V).drewN _
  rw [← hV1]
  have zV1 := xV1.size
  have XV1 := Lib.hid xV1
  clear hV1 xV1 l0 l1 l2 l7 ci zb
  go_wp2_with fail
  obtain ⟨w2, hw2⟩ : ∃ w2, V1.alloc (.cells #[.string ⟨#[113]⟩, .string ⟨#[107]⟩, .string ⟨#[118]⟩, .string ⟨#[111]⟩] 9) = w2 := ⟨_, rfl⟩
  have x2 : Ext V1 w2 := by rw [← hw2]; exact (Ext.refl V1).alloc _
  have bs2 : Blk w2 V1.heap.size 9 #[.string ⟨#[113]⟩, .string ⟨#[107]⟩, .string ⟨#[118]⟩, .string ⟨#[111]⟩] := by rw [← hw2]; exact Blk.new _ _ _
  rw [hw2]
  have X2 := Lib.hid (XV1.out.tr x2)
  have zw2 := X2.out.size
  have BS2 := Lib.hid bs2
  have BX2 := Lib.hid (BV.out.ext X2.out)
  clear hw2 x2 bs2
  go_loopw [13] (fun i wr => ∃ j : Nat, j ≤ 4 ∧ i = .int .i64 j ∧ WalkAt B S wr false (ps ++ (attL.take j).map (attP nm I)) (badN I j) ∧ Chr B S w2 wr) (fun i _ => 4 - (intOf i).toNat)
  case atStart => exact ⟨0, by omega, rfl, by simpa [badN] using HL.out.walk.ext X2.out, Chr.ext (Ext.refl w2) (by omega)⟩
  case round =>
    obtain ⟨j, hj, rfl, hw, hc⟩ := hrel
    have hzr := hc.size
    have hgS : V1.heap.size ≠ S := by omega
    have BX := Lib.hid (hc.blk BX2.out hwS (by decide))
    have BS := Lib.hid (hc.blk BS2.out hgS (by decide))
    have CW := Lib.hid hc
    have hBr : B ≤ wr.heap.size := by omega
    have zwr : w.heap.size < wr.heap.size := by omega
    have zsr : V1.heap.size < wr.heap.size := BS.out.lt
    clear hc
    rcases Nat.lt_or_ge j 4 with hlt | hge
    · obtain ⟨c, hc, hcell⟩ := att_cell hlt
      have m1 := BX.out.cells 1 rfl
      have m2 := BS.out.cells j hcell
      obtain ⟨NC, hNC⟩ : ∃ NC, ba [c] = NC := ⟨_, rfl⟩
      obtain ⟨M0, hM0⟩ : ∃ M, ba (nm ++ [46]) = M := ⟨_, rfl⟩
      obtain ⟨MJ, hMJ⟩ : ∃ M, ba (nm ++ [46, c]) = M := ⟨_, rfl⟩
      have s0 : M0.size = nm.length + 1 := by rw [← hM0, ba_size]; simp
      have sC : NC.size = 1 := by rw [← hNC, ba_size]; rfl
      have a1 := add_ba (A := N) (B := ⟨#[46]⟩) (C := M0) (by rw [← HN.out, ← hM0, ← ba_app]; rfl) (by rw [sN]; show nm.length + 1 ≤ _; omega)
      have a2 := add_ba (A := M0) (B := NC) (C := MJ) (by rw [← hM0, ← hNC, ← hMJ, ba_app, List.append_assoc]; rfl) (by rw [s0, sC]; omega)
      rw [hNC] at hcell m2
      obtain ⟨pw, hb0, hp0⟩ := hw
      have hl4 : (ps ++ (attL.take j).map (attP nm I)).length ≤ 1000 := by simp [attL]; omega
      have RP1 := Lib.hid (fun u (x : Ext wr u) (sv : Value) (ho : u.ownsRow B 3 1 sv [I, I].length ([I, I].map (Value.int .i64))) => rparam_any (fi := I) (fo := I) (hb0.ext x) (hp0.ext x) (Nat.le_trans hBr x.size) hS0 hMJ hl4 ho)
      have hjz : (j : Int) < 4 := by omega
      have hj0 : (0 : Int) ≤ (j : Int) := by omega
      have HTK : Hid ((attL.take (j + 1)).map (attP nm I) = (attL.take j).map (attP nm I) ++ [attP nm I c]) := Lib.hid (att_take hc)
      have HNC := Lib.hid hNC
      clear hb0 hp0 hc hM0 hMJ hNC s0 sC
      go_wp2_with fail
      go_region_held3 (fun w' => w'.cell? ⟨w.heap.size, 1, none⟩ = some (.int .i64 I) ∧ w'.cell? ⟨V1.heap.size, j, none⟩ = some (.string NC) ∧ w.heap.size < w'.heap.size ∧ V1.heap.size < w'.heap.size)
        (refine ⟨?_, ?_, ?_, ?_⟩ <;> first | (simp [go_sem, *]; done) | omega | (simp at z1; omega) | (simp at z2; omega) | (simp at z3; omega) | (simp at z4; omega) | exact (by repeat (first | with_reducible exact Ext.refl _ | with_reducible apply Ext.drew | with_reducible apply Ext.drewN | with_reducible apply Ext.alloc | ((with_reducible refine Ext.setCell ?_ ?_ _); rotate_left; focus (first | (simp; done) | (simp; omega) | omega)) | with_reducible refine Ext.tr ?_ x1 | with_reducible refine Ext.tr ?_ x2 | with_reducible refine Ext.tr ?_ x5 | with_reducible refine Ext.tr ?_ xa | with_reducible refine Ext.tr ?_ xc | with_reducible refine Ext.tr ?_ hx | with_reducible refine Ext.tr ?_ hext | with_reducible assumption)))
        (first | ((go_at_call 48; refine (RP1.out _ (by repeat (first | with_reducible exact Ext.refl _ | with_reducible apply Ext.drew | with_reducible apply Ext.drewN | with_reducible apply Ext.alloc | ((with_reducible refine Ext.setCell ?_ ?_ _); rotate_left; focus (first | (simp; done) | (simp; omega) | omega)) | with_reducible refine Ext.tr ?_ x1 | with_reducible refine Ext.tr ?_ x2 | with_reducible refine Ext.tr ?_ x5 | with_reducible refine Ext.tr ?_ xa | with_reducible refine Ext.tr ?_ xc | with_reducible refine Ext.tr ?_ hx | with_reducible refine Ext.tr ?_ hext | with_reducible assumption)) _ (own_base (World.ownsRow_lit wr #[.int .i64 I, .int .i64 I] 2 (Nat.le_refl _) (by unfold maxLen; omega) rfl) (by omega))).mono ?_; rintro e v3 ⟨pa1, pc1, rfl, b3, p3, c3⟩; have C3 := Lib.hid ((Chr.ext (B := B) (S := S) (show Ext wr _ from (by repeat (first | with_reducible exact Ext.refl _ | with_reducible apply Ext.drew | with_reducible apply Ext.drewN | with_reducible apply Ext.alloc | ((with_reducible refine Ext.setCell ?_ ?_ _); rotate_left; focus (first | (simp; done) | (simp; omega) | omega)) | with_reducible refine Ext.tr ?_ x1 | with_reducible refine Ext.tr ?_ x2 | with_reducible refine Ext.tr ?_ x5 | with_reducible refine Ext.tr ?_ xa | with_reducible refine Ext.tr ?_ xc | with_reducible refine Ext.tr ?_ hx | with_reducible refine Ext.tr ?_ hext | with_reducible assumption))) hBr).trans c3); have B3 := Lib.hid b3; have P3 := Lib.hid p3; have bx3 := C3.out.blk BX.out hwS (by decide); have bs3 := C3.out.blk BS.out hgS (by decide); have n1 := bx3.cells 1 rfl; have n2 := bs3.cells j hcell; have zn := bx3.lt; have zs3 := bs3.lt; clear RP1 b3 p3 c3)) | ((go_at_call 48; refine (RP1.out _ (by repeat (first | with_reducible exact Ext.refl _ | with_reducible apply Ext.drew | with_reducible apply Ext.drewN | with_reducible apply Ext.alloc | ((with_reducible refine Ext.setCell ?_ ?_ _); rotate_left; focus (first | (simp; done) | (simp; omega) | omega)) | with_reducible refine Ext.tr ?_ x1 | with_reducible refine Ext.tr ?_ x2 | with_reducible refine Ext.tr ?_ x5 | with_reducible refine Ext.tr ?_ xa | with_reducible refine Ext.tr ?_ xc | with_reducible refine Ext.tr ?_ hx | with_reducible refine Ext.tr ?_ hext | with_reducible assumption)) _ (own_base ((World.ownsRow_lit wr #[.int .i64 I, .int .i64 I] 2 (Nat.le_refl _) (by unfold maxLen; omega) rfl).drew) (by omega))).mono ?_; rintro e v3 ⟨pa1, pc1, rfl, b3, p3, c3⟩; have C3 := Lib.hid ((Chr.ext (B := B) (S := S) (show Ext wr _ from (by repeat (first | with_reducible exact Ext.refl _ | with_reducible apply Ext.drew | with_reducible apply Ext.drewN | with_reducible apply Ext.alloc | ((with_reducible refine Ext.setCell ?_ ?_ _); rotate_left; focus (first | (simp; done) | (simp; omega) | omega)) | with_reducible refine Ext.tr ?_ x1 | with_reducible refine Ext.tr ?_ x2 | with_reducible refine Ext.tr ?_ x5 | with_reducible refine Ext.tr ?_ xa | with_reducible refine Ext.tr ?_ xc | with_reducible refine Ext.tr ?_ hx | with_reducible refine Ext.tr ?_ hext | with_reducible assumption))) hBr).trans c3); have B3 := Lib.hid b3; have P3 := Lib.hid p3; have bx3 := C3.out.blk BX.out hwS (by decide); have bs3 := C3.out.blk BS.out hgS (by decide); have n1 := bx3.cells 1 rfl; have n2 := bs3.cells j hcell; have zn := bx3.lt; have zs3 := bs3.lt; clear RP1 b3 p3 c3)))
      all_goals
        go_wp2_with fail
        go_roundw
        case rel => exact ⟨j + 1, by omega, by go_num, ⟨_, by rw [← badN_succ]; exact B3.out, by rw [HTK.out, ← List.append_assoc]; exact P3.out⟩, CW.out.trans C3.out⟩
        case measure => simp [intOf]; omega
    · obtain rfl : j = 4 := by omega
      obtain ⟨pv5, hb5⟩ := HL.out.walk.blk
      have HWK := Lib.hid hw
      have CC := Lib.hid ((Chr.ext (B := B) (S := S) X2.out hB0).trans CW.out)
      have R4 := Lib.hid (HR.out.chr CC.out (by omega) hb5 (by decide)).1
      clear hb5 hw
      go_wp2_with fail
      refine (copyN_any R4.out (by simp)).mono ?_
      rintro e v5 ⟨xv, rfl, x5, o5⟩
      obtain ⟨p5, q5, rfl⟩ := own_form2 o5
      have O5 := Lib.hid o5
      have X5 := Lib.hid x5
      clear x5 o5
      go_wp2
      go_ret
      exact ⟨p5, [a, I], q5, _, _, rfl, RowS.of_own O5.out, HWK.out.ext X5.out, (CV.out.trans CC.out).trans (Chr.ext X5.out (by omega)), att_match (by simp)⟩
end Go.Proofs.YtgokenbojppnhaaDoor
namespace Go.Proofs.YtgokenbojppnhaaDoor
open Go.RowKit
attribute [local go_sem ↓] Go.wp_at_zero Go.wp_at_succ
theorem windows_any {B S : Nat} {w : World} {K I O Z T P C H : Int} {ba' ia : Option Addr} {bn bc ic : Nat} {ps : List ParamP} {nm : Bs} {N : ByteArray} {s : List Int} (first : Bool) (h : LayAt B S w (.slice ia s.length ic) s ps nm) (hN : ba nm = N) (hf : LayOk ⟨K, I, O, Z, T, P, C, H⟩) (hk : K = 2 ∨ K = 8 ∨ K = 9) :
    Calls Tryd.prog 49 #[.pointer (some ⟨S, 0, none⟩), .agg #[.int .i64 K, .int .i64 I, .int .i64 O, .int .i64 Z, .int .i64 T, .int .i64 P, .int .i64 C, .int .i64 H, .slice ba' bn bc], .slice ia s.length ic, .string N] w fun e w' => DoneR B S w ps (doesS ⟨K, I, O, Z, T, P, C, H⟩ s first nm) e w' := by
  have hd := (fullS_dims h.dim).1
  have hI0 : s.length < 2 → imageS ⟨K, I, O, Z, T, P, C, H⟩ s = none := fun hl => by unfold imageS; rw [if_neg (by omega)]
  have hI2 : ∀ a ls, s = a :: ls → 1 ≤ ls.length → ls.length ≤ 2 → imageS ⟨K, I, O, Z, T, P, C, H⟩ s = placesS Z (strideS ⟨K, I, O, Z, T, P, C, H⟩) P ls := fun a ls e h1 h2 => by
    subst e
    unfold imageS
    rw [if_pos (by simp; omega)]
    rfl
  have hno : imageS ⟨K, I, O, Z, T, P, C, H⟩ s = none → doesS ⟨K, I, O, Z, T, P, C, H⟩ s first nm = none := fun hI => by
    unfold doesS
    rw [if_neg (by simp; omega)]
    split
    · rw [hI]
    · rw [if_pos (by simp at *; omega), hI]; rfl
  match s, h, hd, hI0, hI2, hno with
  | [], h, _, hI0, _, hno => rw [hno (hI0 (by simp))]; exact rwin_0 h hN
  | [a], h, _, hI0, _, hno => rw [hno (hI0 (by simp))]; exact rwin_1 h hN
  | a :: a2 :: ls, h, hd, _, hI2, hno =>
    have hI := hI2 a (a2 :: ls) rfl (by simp) (by simp at hd ⊢; omega)
    by_cases k2 : K = 2
    · obtain ⟨hw, i1, i2, o1, o2⟩ := hf.conv k2
      obtain ⟨z0, z1, t0, t1, p0, p1⟩ := hw
      have hst : strideS ⟨K, I, O, Z, T, P, C, H⟩ = T := by unfold strideS; rw [if_pos k2]
      rw [hst] at t0 t1 hI
      by_cases hai : a = I
      · cases hPS : placesS Z T P (a2 :: ls) with
        | none => rw [hno (hI.trans hPS)]; exact rwin_no2 h hN rfl (by simp) (by simp at hd ⊢; omega) k2 hai z0 z1 t0 t1 p0 p1 hPS
        | some p =>
          have e : doesS ⟨K, I, O, Z, T, P, C, H⟩ (a :: a2 :: ls) first nm = some (O :: p, [⟨nm ++ [46, 119], O :: I :: List.replicate (ls.length + 1) Z, I * pr (List.replicate (ls.length + 1) Z), O * pr (List.replicate (ls.length + 1) Z)⟩, ⟨nm ++ [46, 98], O :: List.replicate (ls.length + 1) 1, 0, 0⟩]) := by
            unfold doesS
            rw [if_neg (by simp; omega), if_pos k2, hI, hPS]
            simp only
            rw [if_pos (by simpa using hai)]
            rfl
          rw [e]
          exact rwin_conv h hN rfl (by simp) (by simp at hd ⊢; omega) k2 hai z0 z1 t0 t1 p0 p1 i1 i2 o1 o2 hPS
      · have e : doesS ⟨K, I, O, Z, T, P, C, H⟩ (a :: a2 :: ls) first nm = none := by
          unfold doesS
          rw [if_neg (by simp; omega), if_pos k2]
          split
          · rfl
          · rw [if_neg (by simpa using hai)]
        rw [e]
        exact rwin_in h hN rfl (by simp) (by simp at hd ⊢; omega) k2 hai
    · obtain ⟨z0, z1, t0, t1, p0, p1⟩ := hf.pool (show K = 8 ∨ K = 9 by omega)
      have hst : strideS ⟨K, I, O, Z, T, P, C, H⟩ = Z := by unfold strideS; rw [if_neg k2]
      rw [hst] at t0 t1 hI
      cases hPS : placesS Z Z P (a2 :: ls) with
      | none => rw [hno (hI.trans hPS)]; exact rwin_no h hN rfl (by simp) (by simp at hd ⊢; omega) k2 z0 z1 t0 t1 p0 p1 hPS
      | some p =>
        have e : doesS ⟨K, I, O, Z, T, P, C, H⟩ (a :: a2 :: ls) first nm = some (a :: p, []) := by
          unfold doesS
          rw [if_neg (by simp; omega), if_neg k2, if_pos (by simp; omega), hI, hPS]
          rfl
        rw [e]
        exact rwin_pool h hN rfl (by simp) (by simp at hd ⊢; omega) k2 z0 z1 t0 t1 p0 p1 hPS
set_option maxHeartbeats 8000000 in
set_option maxRecDepth 100000 in
theorem rl_win {B S : Nat} {w : World} {K I O Z T P C H : Int} {ba' ia : Option Addr} {bn bc ic : Nat} {ps : List ParamP} {nm : Bs} {N : ByteArray} {first : Bool} {s : List Int} (h : LayIn B S w (.slice ia s.length ic) s ps nm first) (hN : ba nm = N) (hf : LayOk ⟨K, I, O, Z, T, P, C, H⟩) (hk : K = 2 ∨ K = 8 ∨ K = 9) :
    Calls Tryd.prog 41 #[.pointer (some ⟨S, 0, none⟩), .agg #[.int .i64 K, .int .i64 I, .int .i64 O, .int .i64 Z, .int .i64 T, .int .i64 P, .int .i64 C, .int .i64 H, .slice ba' bn bc], .slice ia s.length ic, .string N] w fun e w' => DoneR B S w ps (doesS ⟨K, I, O, Z, T, P, C, H⟩ s first nm) e w' := by
  obtain ⟨pv, hblk, -⟩ := h.walk
  have j1 := hblk.cells 1 (show _ = some (.bool first) from rfl)
  have f1 := hblk.frozen 1
  have zS := hblk.lt
  have HI := Lib.hid h
  have HN := Lib.hid hN
  clear h hblk hN
  go_enter Tryd.func41, Tryd.ntmps41
  go_upto_region 4 with (fail)
  obtain ⟨V, hV⟩ : ∃ V, V = (w.setCell ⟨S, 1, none⟩ (.bool false)).alloc (.cells #[.int .i64 K, .int .i64 I, .int .i64 O, .int .i64 Z, .int .i64 T, .int .i64 P, .int .i64 C, .int .i64 H, .slice ba' bn bc] 52) := ⟨_, rfl⟩
  rw [← hV]
  have HL : Hid (LayAt B S V (.slice ia s.length ic) s ps nm) := Lib.hid (by rw [hV]; exact (HI.out.after (Ext.refl w)).ext ((Ext.refl _).alloc _))
  have CV : Hid (Chr B S w V) := Lib.hid (by rw [hV]; exact ((Chr.ext (Ext.refl w) HI.out.base).set).trans (Chr.ext ((Ext.refl _).alloc _) (Nat.le_trans HI.out.base (KeepsWalks.setCell w _ _).size)))
  have bV : Blk V w.heap.size 52 #[.int .i64 K, .int .i64 I, .int .i64 O, .int .i64 Z, .int .i64 T, .int .i64 P, .int .i64 C, .int .i64 H, .slice ba' bn bc] := by rw [hV]; exact Blk.new27 (by simp)
  have BV := Lib.hid bV
  have l0 := bV.cells 0 rfl
  have l1 := bV.cells 1 rfl
  have l2 := bV.cells 2 rfl
  have l7 := bV.cells 7 rfl
  have zV := bV.lt
  obtain ⟨pv2, hblk⟩ := HL.out.walk.blk
  have j2 := hblk.cells 2 (show _ = some (.int .i64 0) from rfl)
  have f2 := hblk.frozen 2
  have zS2 := hblk.lt
  have HR := Lib.hid HL.out.row
  have hwS : w.heap.size ≠ S := by omega
  clear hV hblk bV HI j1 f1
  have l3 := BV.out.cells 3 rfl
  have l4 := BV.out.cells 4 rfl
  have l5 := BV.out.cells 5 rfl
  have l6 := BV.out.cells 6 rfl
  have l8 := BV.out.cells 8 rfl
  have WA := Lib.hid (windows_any (ba' := ba') (bn := bn) (bc := bc) (first := first) HL.out HN.out hf hk)
  obtain ⟨DS, hDS⟩ : ∃ D, doesS ⟨K, I, O, Z, T, P, C, H⟩ s first nm = D := ⟨_, rfl⟩
  rw [hDS] at WA
  have HDS := Lib.hid hDS
  clear hDS hf
  rcases hk with rfl | rfl | rfl
  all_goals
    go_wp2_with fail
    refine WA.out.mono ?_
    intro e w1 hd
    have HD := Lib.hid hd
    obtain ⟨xa, xs, xc, bad, qs, rfl, -⟩ := hd
    go_wp2
    go_ret
    rw [HDS.out]
    exact HD.out.after CV.out
set_option maxHeartbeats 8000000 in
set_option maxRecDepth 100000 in
theorem rl_other {B S : Nat} {w : World} {K I O Z T P C H : Int} {ba' ia : Option Addr} {bn bc ic : Nat} {ps : List ParamP} {nm : Bs} {N : ByteArray} {first : Bool} {s : List Int} (h : LayIn B S w (.slice ia s.length ic) s ps nm first) (hN : ba nm = N) (n1 : K ≠ 1) (n2 : K ≠ 2) (n8 : K ≠ 8) (n9 : K ≠ 9) (n10 : K ≠ 10) (n11 : K ≠ 11) (n12 : K ≠ 12) (n13 : K ≠ 13) :
    Calls Tryd.prog 41 #[.pointer (some ⟨S, 0, none⟩), .agg #[.int .i64 K, .int .i64 I, .int .i64 O, .int .i64 Z, .int .i64 T, .int .i64 P, .int .i64 C, .int .i64 H, .slice ba' bn bc], .slice ia s.length ic, .string N] w fun e w' => DoneR B S w ps (some (s, [])) e w' := by
  obtain ⟨pv, hblk, -⟩ := h.walk
  have j1 := hblk.cells 1 (show _ = some (.bool first) from rfl)
  have f1 := hblk.frozen 1
  have zS := hblk.lt
  have HI := Lib.hid h
  have HN := Lib.hid hN
  clear h hblk hN
  go_enter Tryd.func41, Tryd.ntmps41
  go_upto_region 4 with (fail)
  obtain ⟨V, hV⟩ : ∃ V, V = (w.setCell ⟨S, 1, none⟩ (.bool false)).alloc (.cells #[.int .i64 K, .int .i64 I, .int .i64 O, .int .i64 Z, .int .i64 T, .int .i64 P, .int .i64 C, .int .i64 H, .slice ba' bn bc] 52) := ⟨_, rfl⟩
  rw [← hV]
  have HL : Hid (LayAt B S V (.slice ia s.length ic) s ps nm) := Lib.hid (by rw [hV]; exact (HI.out.after (Ext.refl w)).ext ((Ext.refl _).alloc _))
  have CV : Hid (Chr B S w V) := Lib.hid (by rw [hV]; exact ((Chr.ext (Ext.refl w) HI.out.base).set).trans (Chr.ext ((Ext.refl _).alloc _) (Nat.le_trans HI.out.base (KeepsWalks.setCell w _ _).size)))
  have bV : Blk V w.heap.size 52 #[.int .i64 K, .int .i64 I, .int .i64 O, .int .i64 Z, .int .i64 T, .int .i64 P, .int .i64 C, .int .i64 H, .slice ba' bn bc] := by rw [hV]; exact Blk.new27 (by simp)
  have BV := Lib.hid bV
  have l0 := bV.cells 0 rfl
  have l1 := bV.cells 1 rfl
  have l2 := bV.cells 2 rfl
  have l7 := bV.cells 7 rfl
  have zV := bV.lt
  obtain ⟨pv2, hblk⟩ := HL.out.walk.blk
  have j2 := hblk.cells 2 (show _ = some (.int .i64 0) from rfl)
  have f2 := hblk.frozen 2
  have zS2 := hblk.lt
  have HR := Lib.hid HL.out.row
  have hwS : w.heap.size ≠ S := by omega
  clear hV hblk bV HI j1 f1
  have t1 : (K == 1) = false := by simpa using n1
  have t2 : (K == 2) = false := by simpa using n2
  have t8 : (K == 8) = false := by simpa using n8
  have t9 : (K == 9) = false := by simpa using n9
  have t10 : (K == 10) = false := by simpa using n10
  have t11 : (K == 11) = false := by simpa using n11
  have t12 : (K == 12) = false := by simpa using n12
  have t13 : (K == 13) = false := by simpa using n13
  have hd := (fullS_dims HL.out.dim).1
  have hB0 := HL.out.base
  have R4 := Lib.hid HR.out.1
  clear n1 n2 n8 n9 n10 n11 n12 n13
  go_wp2_with fail
  refine (copyN_any R4.out (by omega)).mono ?_
  rintro e v5 ⟨xv, rfl, x5, o5⟩
  obtain ⟨p5, q5, rfl⟩ := own_form2 o5
  have O5 := Lib.hid o5
  have X5 := Lib.hid x5
  clear x5 o5
  go_wp2
  go_ret
  exact ⟨p5, s, q5, 0, ps, rfl, RowS.of_own O5.out, HL.out.walk.ext X5.out, CV.out.trans (Chr.ext X5.out hB0), by simp⟩
/-- Any layer that is no residual. -/
theorem rplain_any {B S : Nat} {w : World} {K I O Z T P C H : Int} {ba' ia : Option Addr} {bn bc ic : Nat} {ps : List ParamP} {nm : Bs} {N : ByteArray} {first : Bool} {s : List Int} (h : LayIn B S w (.slice ia s.length ic) s ps nm first) (hN : ba nm = N) (hf : LayOk ⟨K, I, O, Z, T, P, C, H⟩) (h13 : K ≠ 13) :
    Calls Tryd.prog 41 #[.pointer (some ⟨S, 0, none⟩), .agg #[.int .i64 K, .int .i64 I, .int .i64 O, .int .i64 Z, .int .i64 T, .int .i64 P, .int .i64 C, .int .i64 H, .slice ba' bn bc], .slice ia s.length ic, .string N] w fun e w' => DoneR B S w ps (doesS ⟨K, I, O, Z, T, P, C, H⟩ s first nm) e w' := by
  by_cases h2 : K = 2
  · exact rl_win h hN hf (.inl h2)
  by_cases h8 : K = 8
  · exact rl_win h hN hf (.inr (.inl h8))
  by_cases h9 : K = 9
  · exact rl_win h hN hf (.inr (.inr h9))
  have hd := (fullS_dims h.dim).1
  unfold doesS
  by_cases h1 : K = 1
  · subst h1
    simp only [if_true]
    by_cases l0 : s.length < 1
    · rw [if_neg (by omega)]; exact rl_lin_0 h hN rfl l0
    by_cases l3 : 2 < s.length
    · rw [if_neg (by omega)]; exact rl_lin_3 h hN rfl l3
    by_cases hi : s.getD (s.length - 1) 0 = I
    · rw [if_pos ⟨by omega, by omega, hi⟩]; exact rl_lin h hN rfl (by omega) (by omega) hi
    · rw [if_neg (fun x => hi x.2.2)]; exact rl_lin_in h hN rfl (by omega) (by omega) hi
  rw [if_neg h1, if_neg h2, if_neg (by simp; exact ⟨h8, h9⟩)]
  by_cases h10 : K = 10
  · subst h10
    simp only [if_true]
    exact rl_flat h hN rfl
  rw [if_neg h10]
  by_cases h11 : K = 11
  · subst h11
    simp only [if_true]
    by_cases hf1 : first = true
    · by_cases hl : s.length = 1
      · rw [if_pos ⟨hf1, hl⟩]
        obtain ⟨a, rfl⟩ := List.length_eq_one_iff.1 hl
        exact rl_emb h hN hf1
      · rw [if_neg (fun x => hl x.2)]; exact rl_emb_l h hN rfl hf1 hl
    · rw [if_neg (fun x => hf1 x.1)]; exact rl_emb_n h hN rfl (by simpa using hf1)
  rw [if_neg h11]
  by_cases h12 : K = 12
  · subst h12
    simp only [if_true]
    obtain ⟨a1, a2⟩ := hf.att rfl
    by_cases hl : s.length = 2
    · obtain ⟨a, b, rfl⟩ : ∃ a b, s = [a, b] := by
        match s, hl with
        | [a, b], _ => exact ⟨a, b, rfl⟩
      by_cases hb : b = I
      · subst hb
        by_cases hm : b % H = 0
        · rw [if_pos ⟨rfl, by simp, hm⟩]; exact rl_att h hN a1 a2 hm
        · rw [if_neg (fun x => hm x.2.2)]; exact rl_att_h h hN a1 a2 hm
      · rw [if_neg (fun x => hb (by simpa using x.2.1))]; exact rl_att_i h hN hb
    · rw [if_neg (fun x => hl x.1)]; exact rl_att_l h hN rfl hl
  rw [if_neg h12]
  exact rl_other h hN h1 h2 h8 h9 h10 h11 h12 h13
/-- What a layer promises. -/
def LayerR (B S : Nat) (w : World) (ps : List ParamP) (t : Told) (e : Ending) (w' : World) : Prop :=
  ∃ (xa : Option Addr) (xs : List Int) (xc : Nat) (bad : Int) (qs : List ParamP), e = .returned (.slice xa xs.length xc) ∧ RowS S w' (.slice xa xs.length xc) xs ∧ WalkAt B S w' false qs bad ∧ Chr B S w w' ∧ xs.length ≤ 1000 ∧
    match t with
    | .bad er => bad = er ∨ (bad = 0 ∧ er = 5 ∧ fullS xs = false)
    | .ok o ns => xs = o ∧ qs = ps ++ ns ∧ bad = 0
theorem done_layer {B S : Nat} {w : World} {ps : List ParamP} {f : LayF} {s : List Int} {first : Bool} {nm : Bs} {e : Ending} {w' : World} (h : DoneR B S w ps (doesS f s first nm) e w') (hs : s.length ≤ 3) : LayerR B S w ps (judgeS f s first nm) e w' := by
  obtain ⟨xa, xs, xc, bad, qs, h1, h2, h3, h4, h5⟩ := h
  unfold judgeS
  cases hd : doesS f s first nm with
  | none =>
    rw [hd] at h5
    simp only at h5 ⊢
    exact ⟨xa, xs, xc, bad, qs, h1, h2, h3, h4, by rw [h5.1]; simp, .inl h5.2⟩
  | some q =>
    obtain ⟨o, ns⟩ := q
    rw [hd] at h5
    simp only at h5 ⊢
    obtain ⟨ol, -⟩ := does_len hd hs
    by_cases hn : ns.all (fun p => shp p.shape) = true
    · rw [if_pos hn] at h5
      obtain ⟨rfl, rfl, rfl⟩ := h5
      cases hf : fullS xs with
      | true => rw [hn]; exact ⟨xa, xs, xc, 0, _, h1, h2, h3, h4, ol, rfl, rfl, rfl⟩
      | false => exact ⟨xa, xs, xc, 0, _, h1, h2, h3, h4, ol, .inr ⟨rfl, rfl, hf⟩⟩
    · rw [if_neg hn] at h5
      rw [if_neg (by simp [hn])]
      exact ⟨xa, xs, xc, bad, qs, h1, h2, h3, h4, h5.1, .inl h5.2⟩
end Go.Proofs.YtgokenbojppnhaaDoor
