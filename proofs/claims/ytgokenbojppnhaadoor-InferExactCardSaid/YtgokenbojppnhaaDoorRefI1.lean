/- The reference's numbers for layer 27: ratchetref11.Places, ratchetref27.times. (*ratchetref27.walk).param. ratchetref27.conv: four rows grown side by side. ratchetref11.Spatial, ratchetref27.places. -/
import Derived.Test.YtgokenbojppnhaaDoorInfSmall
import Derived.Test.YtgokenbojppnhaaDoorInfParam
import Derived.Test.YtgokenbojppnhaaDoorInfDoes0
import Derived.Deep.AppendLies
import Derived.Test.YtgokenbojppnhaaDoorInfDoes5
import Derived.BigQuiet
import Derived.Deep.RegionHeld3
namespace Go.Proofs.YtgokenbojppnhaaDoor
open Go.RowKit
/-- How many places there are along a dimension; 0: none. -/
def plcR (Z T P l : Int) : Int := if roomS Z P l < 0 then 0 else roomS Z P l / T + 1
theorem plcR_neg {Z T P l : Int} (h : roomS Z P l < 0) : plcR Z T P l = 0 := by unfold plcR; rw [if_pos h]
theorem plcR_pos {Z T P l : Int} (h : ¬ roomS Z P l < 0) : plcR Z T P l = roomS Z P l / T + 1 := by unfold plcR; rw [if_neg h]
theorem placesR_any (l Z T P : Int) (w : World) (h1 : 1 ≤ l) (h2 : l ≤ 4096) (z0 : 1 ≤ Z) (z1 : Z ≤ 4096) (t0 : 1 ≤ T) (t1 : T ≤ 4096) (p0 : 0 ≤ P) (p1 : P ≤ 4096) :
    Calls Tryd.prog 86 #[.int .i64 l, .int .i64 Z, .int .i64 T, .int .i64 P, .int .i64 1] w fun e w' => e = .returned (.int .i64 (plcR Z T P l)) ∧ w = w' := by
  obtain ⟨R, hR⟩ : ∃ R, l + 2 * P - (Z - 1) - 1 = R := ⟨_, rfl⟩
  have RE : Hid (roomS Z P l = R) := Lib.hid hR
  have w1 : IntKind.i64.wrap (l + 2 * P - (Z - 1) - 1) = R := by rw [IntKind.wrap_i64]; omega
  have b1 : R ≤ 12288 := by omega
  have b2 : -4096 ≤ R := by omega
  by_cases hn : R < 0
  · have HR := Lib.hid hR
    clear hR
    go_enter Tryd.func86, Tryd.ntmps86
    go_wp2
    all_goals
      go_ret
      exact ⟨by rw [plcR_neg (by rw [RE.out]; exact hn)]; rfl, rfl⟩
  · have q0 : 0 ≤ R / T := Int.ediv_nonneg (by omega) (by omega)
    have q1 : R / T ≤ 12288 := Int.le_trans (Int.ediv_le_self _ (by omega)) b1
    have HR := Lib.hid hR
    clear hR
    go_enter Tryd.func86, Tryd.ntmps86
    go_wp2
    all_goals
      go_ret
      exact ⟨by rw [plcR_pos (by rw [RE.out]; omega), RE.out]; rfl, rfl⟩
/-- A number by another one, so often as there are more and it is not beyond the limit. -/
def timesR : Nat → Int → Int → Int
  | 0, n, _ => n
  | k + 1, n, by_ => if n ≤ 65536 then timesR k (n * by_) by_ else n
theorem timesR_far : ∀ (k : Nat) {n b : Int}, 65536 < n → timesR k n b = n
  | 0, _, _, _ => rfl
  | k + 1, n, b, h => by rw [timesR, if_neg (by omega)]
theorem timesR_pr : ∀ (k : Nat) {n b : Int}, 1 ≤ b → n * pr (List.replicate k b) ≤ 65536 → 1 ≤ n → timesR k n b = n * pr (List.replicate k b)
  | 0, n, b, _, _, _ => by simp [timesR, pr]
  | k + 1, n, b, hb, h, hn => by
    have e : pr (List.replicate (k + 1) b) = b * pr (List.replicate k b) := by
      rw [List.replicate_succ', pr_snoc, Int.mul_comm]
    have hp : 1 ≤ pr (List.replicate k b) := by
      have : ∀ j : Nat, 1 ≤ pr (List.replicate j b) := fun j => by
        induction j with
        | zero => simp [pr]
        | succ j ih =>
          rw [List.replicate_succ', pr_snoc]
          have := Int.mul_le_mul ih hb (by omega) (by omega)
          omega
      exact this k
    rw [e] at h ⊢
    rw [← Int.mul_assoc] at h ⊢
    have hnb : 1 ≤ n * b := by have := Int.mul_le_mul hn hb (by omega) (by omega); omega
    have h2 : n ≤ 65536 := by
      have a := Int.mul_le_mul_of_nonneg_left hb (show (0 : Int) ≤ n by omega)
      have c := Int.mul_le_mul_of_nonneg_left hp (show (0 : Int) ≤ n * b by omega)
      omega
    rw [timesR, if_pos h2]
    exact timesR_pr k hb h hnb
theorem timesR_any (n b : Int) (k : Nat) (w : World) (n0 : 1 ≤ n) (n1 : n ≤ 4096) (b0 : 1 ≤ b) (b1 : b ≤ 4096) (hk : k ≤ 100) :
    Calls Tryd.prog 60 #[.int .i64 n, .int .i64 b, .int .i64 k] w fun e w' => e = .returned (.int .i64 (timesR k n b)) ∧ w = w' := by
  go_enter Tryd.func60, Tryd.ntmps60
  go_wp2_with fail
  go_loop [0, 7] (fun m i => ∃ (j : Nat) (x : Int), j ≤ k ∧ i = .int .i64 j ∧ m = .int .i64 x ∧ 1 ≤ x ∧ x ≤ 268435456 ∧ timesR (k - j) x b = timesR k n b) (fun _ i => k - (intOf i).toNat)
  case atStart => exact ⟨0, n, Nat.zero_le _, rfl, rfl, n0, by omega, rfl⟩
  case round =>
    obtain ⟨j, x, hj, rfl, rfl, x0, x1, ht⟩ := hrel
    have HT := Lib.hid ht
    clear ht
    rcases Nat.lt_or_ge j k with hlt | hge
    · have hlz : (j : Int) < (k : Int) := by omega
      by_cases hx : x ≤ 65536
      · have m1 := Int.mul_le_mul hx b1 (by omega) (by omega)
        have m0 := Int.mul_le_mul x0 b0 (by omega) (by omega)
        have NEW : Hid (timesR (k - (j + 1)) (x * b) b = timesR k n b) := Lib.hid (by
          rw [← HT.out, show k - j = (k - (j + 1)) + 1 by omega, timesR, if_pos hx])
        obtain ⟨y, hy⟩ : ∃ y, x * b = y := ⟨_, rfl⟩
        rw [hy] at m0 m1 NEW
        have wy : IntKind.i64.wrap (x * b) = y := by rw [hy, IntKind.wrap_i64]; omega
        clear hy
        go_wp2
        go_round
        case rel => exact ⟨j + 1, y, by omega, by go_num, rfl, by omega, by omega, NEW.out⟩
        case measure => simp [intOf]; omega
      · have E : Hid (timesR k n b = x) := Lib.hid (by rw [← HT.out]; exact timesR_far _ (by omega))
        go_wp2
        go_ret
        exact ⟨by rw [E.out]; rfl, rfl⟩
    · have E : Hid (timesR k n b = x) := Lib.hid (by rw [← HT.out, show k - j = 0 by omega]; rfl)
      have hlz : ¬ (j : Int) < (k : Int) := by omega
      go_wp2
      go_ret
      exact ⟨by rw [E.out]; rfl, rfl⟩
end Go.Proofs.YtgokenbojppnhaaDoor
namespace Go.Proofs.YtgokenbojppnhaaDoor
open Go.RowKit
/-- What the reference's walk may turn: its own block S, and rows of parameters. -/
structure Chr (B S : Nat) (w w' : World) : Prop where
  os : w'.os = w.os
  tape : w'.tape = w.tape
  output : w'.output = w.output
  size : w.heap.size ≤ w'.heap.size
  old : ∀ k : Nat, k < B → k ≠ S → w'.heap[k]? = w.heap[k]?
  cells : ∀ (k : Nat) (cs : Array Value) (t : TypeId) (fr : Nat × Nat), k ≠ S → t ≠ 43 → w.heap[k]? = some (Obj.cells cs t fr) → w'.heap[k]? = some (Obj.cells cs t fr)
theorem Chr.ext {B S : Nat} {w w' : World} (x : Ext w w') (hB : B ≤ w.heap.size) : Chr B S w w' :=
  ⟨x.os, x.tape, x.output, x.size, fun k hk _ => x.block k (Nat.lt_of_lt_of_le hk hB), fun k _ _ _ _ _ h => (x.block k (Array.getElem?_eq_some_iff.1 h).1).trans h⟩
theorem Chr.trans {B S : Nat} {a b c : World} (h : Chr B S a b) (k : Chr B S b c) : Chr B S a c :=
  ⟨k.os.trans h.os, k.tape.trans h.tape, k.output.trans h.output, Nat.le_trans h.size k.size, fun i hi hn => (k.old i hi hn).trans (h.old i hi hn), fun i cs t fr hn ht e => k.cells i cs t fr hn ht (h.cells i cs t fr hn ht e)⟩
theorem Chr.set {B S o : Nat} {a b : World} {u : Value} (c : Chr B S a b) : Chr B S a (b.setCell ⟨S, o, none⟩ u) :=
  ⟨c.os, c.tape, c.output, Nat.le_trans c.size (KeepsWalks.setCell b _ u).size, fun k hk hn => (Below.heap_setCell _ _ _ k hn).trans (c.old k hk hn), fun k ks t fr hn ht e => (Below.heap_setCell _ _ _ k hn).trans (c.cells k ks t fr hn ht e)⟩
theorem Chr.blk {B S g : Nat} {w w' : World} {t : TypeId} {cs : Array Value} (c : Chr B S w w') (h : Blk w g t cs) (hn : g ≠ S) (ht : t ≠ 43) : Blk w' g t cs := c.cells g cs t (0, 0) hn ht h
theorem RowS.chr {B S : Nat} {w w' : World} {v : Value} {xs : List Int} {t : TypeId} {cs : Array Value} (h : RowS S w v xs) (c : Chr B S w w') (hB : S ≤ B) (hS : Blk w S t cs) (ht : t ≠ 3) : RowS S w' v xs :=
  h.keep (fun k hk _ => c.old k (by omega) (by omega)) (fun k cs' fr e => c.cells k cs' _ fr (by
    rintro rfl
    unfold Blk at hS
    rw [hS] at e
    cases e
    exact ht rfl) (by decide) e)
theorem LaysAt.chr {B S : Nat} {A : Nat → Prop} {w w' : World} {n : Nat} {v : Value} {L : List Lay} (h : LaysAt A w n v L) (c : Chr B S w w') (hA : ∀ b, A b → b < S) (hB : S ≤ B) : LaysAt A w' n v L :=
  h.keep (fun _ h => h) (fun b hb _ => c.old b (by have := hA b hb; omega) (by have := hA b hb; omega))
/-- The reference's walk: its parameters, is the layer that comes the first, its error. -/
def walkA (pv : Value) (first : Bool) (bad : Int) : Array Value := #[pv, .bool first, .int .i64 bad]
/-- The error behind a parameter. -/
def badP (sh : List Int) (bad : Int) : Int := if shp sh = false ∧ bad = 0 then 5 else bad
set_option maxHeartbeats 2000000 in
set_option maxRecDepth 100000 in
theorem rparam_any {pv sv : Value} {first : Bool} {nm : Bs} {N : ByteArray} {bad fi fo : Int} {B S : Nat} {w : World} {ps : List ParamP} {sh : List Int} (h : Blk w S 64 (walkA pv first bad)) (hp : ParsAt B w pv ps) (hB : B ≤ w.heap.size) (hS : S < B) (hN : ba nm = N) (hps : ps.length ≤ 1000)
    (hsv : w.ownsRow B 3 1 sv sh.length (sh.map (Value.int .i64))) :
    Calls Tryd.prog 48 #[.pointer (some ⟨S, 0, none⟩), .string N, sv, .int .i64 fi, .int .i64 fo] w fun e w' => ∃ pa pc, e = .returned (.tuple #[]) ∧ Blk w' S 64 (walkA (.slice pa (ps.length + 1) pc) first (badP sh bad)) ∧ ParsAt B w' (.slice pa (ps.length + 1) pc) (ps ++ [⟨nm, sh, fi, fo⟩]) ∧ Chr B S w w' := by
  obtain ⟨i0, hi0, hz0, hz1, hz2⟩ := info_parts par_info
  obtain ⟨pa, pc, rfl⟩ := hp.form
  obtain ⟨sa, sc, rfl⟩ := own_form2 hsv
  obtain ⟨qs, hq, hown, hrest⟩ := hp
  have k0 := (h.cell 0).trans (show (walkA (.slice pa ps.length pc) first bad)[0]? = some (.slice pa ps.length pc) from rfl)
  have HN := Lib.hid hN
  have HB := Lib.hid h
  have HO := Lib.hid hown
  have HR := Lib.hid hrest
  have HSV := Lib.hid hsv
  have HQ := Lib.hid hq
  have HROW := Lib.hid (own_type hown)
  have zS := h.lt
  clear h hown hrest hsv hq hN
  go_enter Tryd.func48, Tryd.ntmps48
  go_wp2_with (at_builtin; refine wpList_append_own _ rfl _ _ 28 rfl B 43 i0 (.agg #[.string ⟨#[]⟩, .slice none 0 0, .int .i64 0, .int .i64 0]) 4 56 Tryd.underlying28 hi0 hz0 hz1 hz2 rfl (by decide) (.slice pa ps.length pc) ps.length (parCells qs) rfl (HO.out.alloc _) ⟨w.heap.size, 0, none⟩ 1 1 [.string N, .slice sa sh.length sc, .int .i64 fi, .int .i64 fo] rfl rfl (World.news_of_block (cs := #[.string N, .slice sa sh.length sc, .int .i64 fi, .int .i64 fo]) (t := 43) (fr := (0, 0)) (heap_alloc_new w _)) (by simp [Value.oneCell']) (by unfold maxLen; omega) (by omega) (by simp; omega) ?_)
  intro v' w1 hown1 hgrow _
  obtain ⟨pa', pc', rfl⟩ := own_form2 hown1
  have hnr0 : ∀ (k : Nat) (cs : Array Value) (t : TypeId) (fr : Nat × Nat), t ≠ 43 → w.heap[k]? = some (.cells cs t fr) → w1.heap[k]? = some (.cells cs t fr) := fun k cs t fr ht e => by
    have hk := (Array.getElem?_eq_some_iff.1 e).1
    have e2 : (w.alloc (.cells #[.string N, .slice sa sh.length sc, .int .i64 fi, .int .i64 fo] 43)).heap[k]? = some (.cells cs t fr) := (Below.heap_alloc _ _ _ hk).trans e
    refine (hgrow.block k (by simp; omega) (fun e3 => ?_)).trans e2
    obtain ⟨-, cs', fr', e4⟩ := HROW.out k e3.symm
    rw [e4] at e
    cases e
    exact absurd rfl ht
  have hnr : ∀ (k : Nat) (cs : Array Value) (fr : Nat × Nat), w.heap[k]? = some (.cells cs 3 fr) → w1.heap[k]? = some (.cells cs 3 fr) := fun k cs fr e => hnr0 k cs _ fr (by decide) e
  have t1' := (HB.out.alloc (.cells #[.string N, .slice sa sh.length sc, .int .i64 fi, .int .i64 fo] 43)).grown hgrow (fun e => by have := (HROW.out _ e.symm).1; omega)
  have c0 := (t1'.cell 0).trans (show (walkA (.slice pa ps.length pc) first bad)[0]? = some (.slice pa ps.length pc) from rfl)
  have f0 := t1'.frozen 0
  have c2 := (t1'.cell 2).trans (show (walkA (.slice pa ps.length pc) first bad)[2]? = some (.int .i64 bad) from rfl)
  have f2 := t1'.frozen 2
  have zt := t1'.lt
  have C1 : Chr B S w w1 := ⟨hgrow.os, hgrow.tape, hgrow.output, Nat.le_trans (by simp) hgrow.size, fun k hk hne => (hgrow.block k (by simp; omega) (fun e => by have := (HROW.out k e.symm).1; omega)).trans (Below.heap_alloc _ _ _ (by omega)), fun k cs t fr _ ht e => hnr0 k cs t fr ht e⟩
  have C2 := Lib.hid (C1.set (o := 0) (u := .slice pa' (ps.length + 1) pc'))
  have T1 := Lib.hid t1'
  have T2 := Lib.hid (t1'.set_ 0 (.slice pa' (ps.length + 1) pc'))
  have OWS := Lib.hid (ownsRow_setCell_below (own_keep HSV.out (fun k cs fr _ e => hnr k cs fr e)) (a := ⟨S, 0, none⟩) hS (.slice pa' (ps.length + 1) pc'))
  have P2 := Lib.hid (ParsAt.snoc (p := ⟨nm, sh, fi, fo⟩) (sv := .slice sa sh.length sc) (qs := qs) HQ.out rfl (fun q hm => ownsRow_setCell_below (own_keep (HR.out q hm) (fun k cs fr _ e => hnr k cs fr e)) (a := ⟨S, 0, none⟩) hS (.slice pa' (ps.length + 1) pc')) OWS.out (ownsRow_setCell_below (by have h := hown1; rw [← HN.out] at h; exact h) (a := ⟨S, 0, none⟩) hS (.slice pa' (ps.length + 1) pc')))
  clear hown1 hgrow hnr hnr0 t1' C1
  go_wp2_with fail
  refine (may6_any (Row.of_owns OWS.out).1).mono ?_
  rintro e w' ⟨rfl, rfl⟩
  cases hs : shp sh with
  | true =>
    have E : Hid (badP sh bad = bad) := Lib.hid (by unfold badP; rw [if_neg (by simp [hs])])
    clear hs
    go_wp2
    refine bodyPost_end (results_none rfl _ _ _) rfl ?_
    rw [E.out]
    exact ⟨pa', pc', rfl, T2.out, P2.out, C2.out⟩
  | false =>
    by_cases hb : bad = 0
    · have E : Hid (badP sh bad = 5) := Lib.hid (by unfold badP; rw [if_pos ⟨hs, hb⟩])
      have hb' : (bad == 0) = true := by simp [hb]
      have HBD := Lib.hid hb
      clear hs hb
      go_wp2
      refine bodyPost_end (results_none rfl _ _ _) rfl ?_
      rw [E.out]
      refine ⟨pa', pc', rfl, T2.out.set_ 2 _, ?_, C2.out.set⟩
      obtain ⟨rs, r1, r2, r3⟩ := P2.out
      exact ⟨rs, r1, ownsRow_setCell_below r2 hS _, fun q hq => ownsRow_setCell_below (r3 q hq) hS _⟩
    · have E : Hid (badP sh bad = bad) := Lib.hid (by unfold badP; rw [if_neg (fun h => hb h.2)])
      have hb' : (bad == 0) = false := by simpa using hb
      clear hs hb
      go_wp2
      refine bodyPost_end (results_none rfl _ _ _) rfl ?_
      rw [E.out]
      exact ⟨pa', pc', rfl, T2.out, P2.out, C2.out⟩
end Go.Proofs.YtgokenbojppnhaaDoor
namespace Go.Proofs.YtgokenbojppnhaaDoor
open Go.RowKit
theorem wpList_append_lies {P : Program} {w : World} {ops : Array Oper} {rest : List Oper} {o : Oper} {a : Act} {Q : Exit → Act → World → Prop} (hgd : o.guard = none) (s x : Operand) (t : TypeId)
    (ho : o.op = .call { callee := .builtin .append, args := #[s, x], argTypes := #[t, t] })
    (base : Nat) (e : TypeId) (i : TypeInfo) (z : Value) (size bytes : Nat) (ht : P.underlying t = some (.slice e)) (hi : P.info? e = some i) (hz : i.zero = some z)
    (hsize : i.size = size) (hby : i.bytes = bytes) (hzs : z.cells.size = size) (hsz : 0 < size)
    (v : Value) (n : Nat) (xs : List Value) (hs : a.eval s = v) (hown : w.ownsRow base e size v n xs)
    (ad : Addr) (m c : Nat) (news : List Value) (hx : a.eval x = .slice (some ad) m c) (hl : news.length = m * size) (hnews : ∀ j u, news[j]? = some u → w.cell? (ad.add j) = some u) (h1 : ∀ u ∈ news, u.oneCell' = true)
    (hm : 0 < m) (h63 : n + m ≤ maxLen) (hbytes : (n + m) * bytes ≤ 140737488355328) (hbase : base ≤ w.heap.size) (H : Nat) (hH : w.heap.size = H)
    (h : ∀ g cap w', w'.ownsRow base e size (.slice (some ⟨g, 0, none⟩) (n + m) cap) (n + m) (xs ++ news) → w.grownBy w' v.ownBlock → (v.ownBlock = some g ∨ g = H) → wpList P ops Q rest (a.put o.dst (.slice (some ⟨g, 0, none⟩) (n + m) cap)) w') :
    wpList P ops Q (o :: rest) a w :=
  wpList_plain hgd fun _ hK => wp_append_lies w s x t ho base e i z size bytes ht hi hz hsize hby hzs hsz v n xs hs hown ad m c news hx hl hnews h1 hm h63 hbytes hbase H hH fun g cap w' h2 h3 h4 _ => hK _ _ (h g cap w' h2 h3 h4)
/-- Four rows of numbers in own memory, each in a block of its own. -/
structure Fam4 (B : Nat) (w : World) (a b c d : Value) (xa xb xc xd : List Int) : Prop where
  oa : w.ownsRow B 3 1 a xa.length (xa.map (Value.int .i64))
  ob : w.ownsRow B 3 1 b xb.length (xb.map (Value.int .i64))
  oc : w.ownsRow B 3 1 c xc.length (xc.map (Value.int .i64))
  od : w.ownsRow B 3 1 d xd.length (xd.map (Value.int .i64))
  ab : ∀ p, a.ownBlock = some p → b.ownBlock ≠ some p
  ac : ∀ p, a.ownBlock = some p → c.ownBlock ≠ some p
  ad : ∀ p, a.ownBlock = some p → d.ownBlock ≠ some p
  bc : ∀ p, b.ownBlock = some p → c.ownBlock ≠ some p
  bd : ∀ p, b.ownBlock = some p → d.ownBlock ≠ some p
  cd : ∀ p, c.ownBlock = some p → d.ownBlock ≠ some p
theorem Fam4.rot {B : Nat} {w : World} {a b c d : Value} {xa xb xc xd : List Int} (h : Fam4 B w a b c d xa xb xc xd) : Fam4 B w b c d a xb xc xd xa :=
  ⟨h.ob, h.oc, h.od, h.oa, h.bc, h.bd, fun p e1 e2 => h.ab p e2 e1, h.cd, fun p e1 e2 => h.ac p e2 e1, fun p e1 e2 => h.ad p e2 e1⟩
theorem Fam4.ext {B : Nat} {w w' : World} {a b c d : Value} {xa xb xc xd : List Int} (h : Fam4 B w a b c d xa xb xc xd) (x : Ext w w') : Fam4 B w' a b c d xa xb xc xd :=
  ⟨own_old h.oa x, own_old h.ob x, own_old h.oc x, own_old h.od x, h.ab, h.ac, h.ad, h.bc, h.bd, h.cd⟩
theorem Fam4.set {B : Nat} {w : World} {a b c d u : Value} {p : Addr} {xa xb xc xd : List Int} (h : Fam4 B w a b c d xa xb xc xd) (hp : p.block < B) : Fam4 B (w.setCell p u) a b c d xa xb xc xd :=
  ⟨ownsRow_setCell_below h.oa hp u, ownsRow_setCell_below h.ob hp u, ownsRow_setCell_below h.oc hp u, ownsRow_setCell_below h.od hp u, h.ab, h.ac, h.ad, h.bc, h.bd, h.cd⟩
theorem Fam4.base {B B' : Nat} {w : World} {a b c d : Value} {xa xb xc xd : List Int} (h : Fam4 B w a b c d xa xb xc xd) (hb : B' ≤ B) : Fam4 B' w a b c d xa xb xc xd :=
  ⟨own_base h.oa hb, own_base h.ob hb, own_base h.oc hb, own_base h.od hb, h.ab, h.ac, h.ad, h.bc, h.bd, h.cd⟩
theorem own_beside {B : Nat} {w w' : World} {v : Value} {n : Nat} {xs : List Value} {r : Option Nat} (h : w.ownsRow B 3 1 v n xs) (hg : w.grownBy w' r) (hn : ∀ p, r = some p → v.ownBlock ≠ some p) : w'.ownsRow B 3 1 v n xs := by
  refine ⟨h.1, ?_⟩
  rcases h.2 with h | ⟨g, cap, cur, rfl, h2, h3, h4⟩
  · exact .inl h
  · exact .inr ⟨g, cap, cur, rfl, h2, (hg.block g (Array.getElem?_eq_some_iff.1 h3).1 (fun e => hn g e.symm rfl)).trans h3, h4⟩
theorem Fam4.app {B g cap n : Nat} {w w' : World} {a b c d : Value} {xa xb xc xd ya : List Int} (h : Fam4 B w a b c d xa xb xc xd) (hg : w.grownBy w' a.ownBlock) (ho : w'.ownsRow B 3 1 (.slice (some ⟨g, 0, none⟩) n cap) ya.length (ya.map (Value.int .i64))) (hl : a.ownBlock = some g ∨ g = w.heap.size) : Fam4 B w' (.slice (some ⟨g, 0, none⟩) n cap) b c d ya xb xc xd := by
  have lt : ∀ {v : Value} {m : Nat} {xs : List Value}, w.ownsRow B 3 1 v m xs → (∀ p, a.ownBlock = some p → v.ownBlock ≠ some p) → ∀ p, (Value.slice (some ⟨g, 0, none⟩) n cap).ownBlock = some p → v.ownBlock ≠ some p := by
    intro v m xs hv hn p hp e
    cases hp
    rcases hl with hl | hl
    · exact hn _ hl e
    · subst hl
      obtain ⟨-, cs, fr, e2⟩ := own_type hv _ e
      exact Nat.lt_irrefl _ (Array.getElem?_eq_some_iff.1 e2).1
  exact ⟨ho, own_beside h.ob hg h.ab, own_beside h.oc hg h.ac, own_beside h.od hg h.ad, lt h.ob h.ab, lt h.oc h.ac, lt h.od h.ad, h.bc, h.bd, h.cd⟩
theorem Fam4.nil (B : Nat) (w : World) : Fam4 B w (.slice none 0 0) (.slice none 0 0) (.slice none 0 0) (.slice none 0 0) [] [] [] [] :=
  ⟨World.ownsRow_nil _ _ _ _, World.ownsRow_nil _ _ _ _, World.ownsRow_nil _ _ _ _, World.ownsRow_nil _ _ _ _, fun _ e => (by cases e), fun _ e => (by cases e), fun _ e => (by cases e), fun _ e => (by cases e), fun _ e => (by cases e), fun _ e => (by cases e)⟩
theorem rep_next (n : Nat) (x : Int) : (List.replicate n x).map (Value.int .i64) ++ [Value.int .i64 x] = (List.replicate (n + 1) x).map (Value.int .i64) := by
  rw [List.replicate_succ', List.map_append]; rfl
set_option maxHeartbeats 4000000 in
set_option maxRecDepth 100000 in
theorem conv_any (Z T P : Int) (n : Nat) (w : World) (hn : n ≤ 4) :
    Calls Tryd.prog 59 #[.int .i64 Z, .int .i64 T, .int .i64 P, .int .i64 n] w fun e w' => ∃ ka kc sa sc pa pc da dc, e = .returned (.agg #[.slice ka n kc, .slice sa n sc, .slice pa n pc, .slice da n dc]) ∧ Ext w w' ∧ Fam4 w.heap.size w' (.slice ka n kc) (.slice sa n sc) (.slice pa n pc) (.slice da n dc) (List.replicate n Z) (List.replicate n T) (List.replicate n P) (List.replicate n 1) := by
  obtain ⟨i0, hi0, hz0, hz1, hz2⟩ := info_parts cloneI_info
  go_enter Tryd.func59, Tryd.ntmps59
  go_wp2_with fail
  go_loopw [10] (fun i wr => ∃ (j : Nat) (ka sa pa da : Option Addr) (kc sc pc dc : Nat), j ≤ n ∧ i = .int .i64 j ∧ Blk wr w.heap.size 101 #[.slice none 0 0, .slice none 0 0, .slice none 0 0, .slice none 0 0] ∧ Blk wr (w.heap.size + 1) 101 #[.slice ka j kc, .slice sa j sc, .slice pa j pc, .slice da j dc] ∧ Fam4 (w.heap.size + 2) wr (.slice ka j kc) (.slice sa j sc) (.slice pa j pc) (.slice da j dc) (List.replicate j Z) (List.replicate j T) (List.replicate j P) (List.replicate j 1) ∧ Ext w wr) (fun i _ => n - (intOf i).toNat)
  case atStart => exact ⟨0, none, none, none, none, 0, 0, 0, 0, Nat.zero_le _, rfl, (Blk.new w _ _).alloc _, by simpa using Blk.new (w.alloc _) 101 #[.slice none 0 0, .slice none 0 0, .slice none 0 0, .slice none 0 0], Fam4.nil _ _, (by repeat (first | with_reducible exact Ext.refl _ | with_reducible apply Ext.drew | with_reducible apply Ext.drewN | with_reducible apply Ext.alloc | ((with_reducible refine Ext.setCell ?_ ?_ _); rotate_left; focus (first | (simp; done) | (simp; omega) | omega)) | with_reducible refine Ext.tr ?_ x1 | with_reducible refine Ext.tr ?_ x2 | with_reducible refine Ext.tr ?_ xa | with_reducible refine Ext.tr ?_ xb | with_reducible refine Ext.tr ?_ xc | with_reducible refine Ext.tr ?_ xd | with_reducible refine Ext.tr ?_ hx | with_reducible refine Ext.tr ?_ hext | with_reducible assumption))⟩
  case round =>
    obtain ⟨j, ka, sa, pa, da, kc, sc, pc, dc, hj, rfl, b0, b1, fam, hext⟩ := hrel
    rcases Nat.lt_or_ge j n with hlt | hge
    · have hlz : (j : Int) < (n : Int) := by omega
      have B0 := Lib.hid b0
      have B1 := Lib.hid b1
      have FA := Lib.hid fam
      have HX := Lib.hid hext
      clear b0 b1 fam hext
      have e0 := B1.out.cells 0 rfl
      have g0 := B1.out.frozen 0
      have zb0 := B1.out.lt
      have FR0 := Lib.hid (FA.out.oa)
      have hrow0 := own_type FA.out.oa
      rw [List.length_replicate] at FR0
      go_wp2_with (at_builtin; refine (show Hid _ from ?_).out)
      refine Lib.hid ?_
      refine wpList_append_lies rfl _ _ 24 rfl (w.heap.size + 2) 3 i0 (.int .i64 0) 1 8 Tryd.underlying24 hi0 hz0 hz1 hz2 rfl (by decide) (.slice ka j kc) j ((List.replicate j Z).map (Value.int .i64)) rfl (FR0.out.alloc (.cells #[.int .i64 Z] 3)) ⟨wr.heap.size, 0, none⟩ 1 1 [.int .i64 Z] rfl rfl (World.news_of_block (cs := #[.int .i64 Z]) (t := 3) (fr := (0, 0)) (heap_alloc_new wr _)) (by simp [Value.oneCell']) (by decide) (by unfold maxLen; omega) (by omega) (by simp; omega) (wr.heap.size + 1) (by simp) ?_
      intro gk ck w1 hown hgrow hlies
      rw [rep_next] at hown
      have fam1 := (FA.out.ext ((Ext.refl wr).alloc (.cells #[.int .i64 Z] 3))).app (ya := List.replicate (j + 1) Z) hgrow (by rw [List.length_replicate]; exact hown) (by rcases hlies with h | h; exact .inl h; exact .inr (by rw [h]; simp))
      have hlr : ∀ p, (Value.slice ka j kc).ownBlock = some p → w.heap.size + 2 ≤ p := fun p hp => (hrow0 p hp).1
      have b1' := (B1.out.alloc (.cells #[.int .i64 Z] 3)).grown hgrow (fun e => by have := hlr _ e.symm; omega)
      have b0' := (B0.out.alloc (.cells #[.int .i64 Z] 3)).grown hgrow (fun e => by have := hlr _ e.symm; omega)
      have x1 := Ext.grown (HX.out.alloc (.cells #[.int .i64 Z] 3)) hgrow (fun k hk => by have := hlr k hk; omega)
      have k0' := b1'.cells 0 rfl
      have q0' := b1'.frozen 0
      have z0' := b1'.lt
      obtain ⟨V1, hV⟩ : ∃ V1, V1 = w1.setCell ⟨w.heap.size + 1, 0, none⟩ (.slice (some ⟨gk, 0, none⟩) (j + 1) ck) := ⟨_, rfl⟩
      have B0' : Hid (Blk V1 w.heap.size 101 #[.slice none 0 0, .slice none 0 0, .slice none 0 0, .slice none 0 0]) := Lib.hid (by rw [hV]; exact b0'.far (by simp) _)
      have B1' : Hid (Blk V1 (w.heap.size + 1) 101 #[.slice (some ⟨gk, 0, none⟩) (j + 1) ck, .slice sa j sc, .slice pa j pc, .slice da j dc]) := Lib.hid (by rw [hV]; exact b1'.set_ 0 _)
      have FA' := Lib.hid ((fam1.set (p := ⟨w.heap.size + 1, 0, none⟩) (u := .slice (some ⟨gk, 0, none⟩) (j + 1) ck) (by simp)).rot)
      rw [← hV] at FA'
      have HX' : Hid (Ext w V1) := Lib.hid (by rw [hV]; exact x1.setCell (by simp) _)
      clear B0 B1 FA HX FR0 e0 g0 zb0 hown hlies hgrow hlr hrow0 b1' b0' x1 fam1
      have B0 := B0'
      have B1 := B1'
      have FA := FA'
      have HX := HX'
      clear B0' B1' FA' HX'
      go_upto_region 6 with (fail)
      rw [← hV]
      clear hV k0' q0' z0'
      have V10 := HX.out.size
      have e1 := B1.out.cells 1 rfl
      have g1 := B1.out.frozen 1
      have zb1 := B1.out.lt
      have FR1 := Lib.hid (FA.out.oa)
      have hrow1 := own_type FA.out.oa
      rw [List.length_replicate] at FR1
      go_wp2_with (at_builtin; refine (show Hid _ from ?_).out)
      refine Lib.hid ?_
      refine wpList_append_lies rfl _ _ 24 rfl (w.heap.size + 2) 3 i0 (.int .i64 0) 1 8 Tryd.underlying24 hi0 hz0 hz1 hz2 rfl (by decide) (.slice sa j sc) j ((List.replicate j T).map (Value.int .i64)) rfl (FR1.out.alloc (.cells #[.int .i64 T] 3)) ⟨V1.heap.size, 0, none⟩ 1 1 [.int .i64 T] rfl rfl (World.news_of_block (cs := #[.int .i64 T]) (t := 3) (fr := (0, 0)) (heap_alloc_new V1 _)) (by simp [Value.oneCell']) (by decide) (by unfold maxLen; omega) (by omega) (by simp; omega) (V1.heap.size + 1) (by simp) ?_
      intro gs cs w2 hown hgrow hlies
      rw [rep_next] at hown
      have fam1 := (FA.out.ext ((Ext.refl V1).alloc (.cells #[.int .i64 T] 3))).app (ya := List.replicate (j + 1) T) hgrow (by rw [List.length_replicate]; exact hown) (by rcases hlies with h | h; exact .inl h; exact .inr (by rw [h]; simp))
      have hlr : ∀ p, (Value.slice sa j sc).ownBlock = some p → w.heap.size + 2 ≤ p := fun p hp => (hrow1 p hp).1
      have b1' := (B1.out.alloc (.cells #[.int .i64 T] 3)).grown hgrow (fun e => by have := hlr _ e.symm; omega)
      have b0' := (B0.out.alloc (.cells #[.int .i64 T] 3)).grown hgrow (fun e => by have := hlr _ e.symm; omega)
      have x1 := Ext.grown (HX.out.alloc (.cells #[.int .i64 T] 3)) hgrow (fun k hk => by have := hlr k hk; omega)
      have k1' := b1'.cells 1 rfl
      have q1' := b1'.frozen 1
      have z1' := b1'.lt
      obtain ⟨V2, hV⟩ : ∃ V2, V2 = w2.setCell ⟨w.heap.size + 1, 1, none⟩ (.slice (some ⟨gs, 0, none⟩) (j + 1) cs) := ⟨_, rfl⟩
      have B0' : Hid (Blk V2 w.heap.size 101 #[.slice none 0 0, .slice none 0 0, .slice none 0 0, .slice none 0 0]) := Lib.hid (by rw [hV]; exact b0'.far (by simp) _)
      have B1' : Hid (Blk V2 (w.heap.size + 1) 101 #[.slice (some ⟨gk, 0, none⟩) (j + 1) ck, .slice (some ⟨gs, 0, none⟩) (j + 1) cs, .slice pa j pc, .slice da j dc]) := Lib.hid (by rw [hV]; exact b1'.set_ 1 _)
      have FA' := Lib.hid ((fam1.set (p := ⟨w.heap.size + 1, 1, none⟩) (u := .slice (some ⟨gs, 0, none⟩) (j + 1) cs) (by simp)).rot)
      rw [← hV] at FA'
      have HX' : Hid (Ext w V2) := Lib.hid (by rw [hV]; exact x1.setCell (by simp) _)
      clear B0 B1 FA HX FR1 e1 g1 zb1 hown hlies hgrow hlr hrow1 b1' b0' x1 fam1
      have B0 := B0'
      have B1 := B1'
      have FA := FA'
      have HX := HX'
      clear B0' B1' FA' HX'
      go_upto_region 7 with (fail)
      rw [← hV]
      clear hV k1' q1' z1'
      have V20 := HX.out.size
      have e2 := B1.out.cells 2 rfl
      have g2 := B1.out.frozen 2
      have zb2 := B1.out.lt
      have FR2 := Lib.hid (FA.out.oa)
      have hrow2 := own_type FA.out.oa
      rw [List.length_replicate] at FR2
      go_wp2_with (at_builtin; refine (show Hid _ from ?_).out)
      refine Lib.hid ?_
      refine wpList_append_lies rfl _ _ 24 rfl (w.heap.size + 2) 3 i0 (.int .i64 0) 1 8 Tryd.underlying24 hi0 hz0 hz1 hz2 rfl (by decide) (.slice pa j pc) j ((List.replicate j P).map (Value.int .i64)) rfl (FR2.out.alloc (.cells #[.int .i64 P] 3)) ⟨V2.heap.size, 0, none⟩ 1 1 [.int .i64 P] rfl rfl (World.news_of_block (cs := #[.int .i64 P]) (t := 3) (fr := (0, 0)) (heap_alloc_new V2 _)) (by simp [Value.oneCell']) (by decide) (by unfold maxLen; omega) (by omega) (by simp; omega) (V2.heap.size + 1) (by simp) ?_
      intro gp cp w3 hown hgrow hlies
      rw [rep_next] at hown
      have fam1 := (FA.out.ext ((Ext.refl V2).alloc (.cells #[.int .i64 P] 3))).app (ya := List.replicate (j + 1) P) hgrow (by rw [List.length_replicate]; exact hown) (by rcases hlies with h | h; exact .inl h; exact .inr (by rw [h]; simp))
      have hlr : ∀ p, (Value.slice pa j pc).ownBlock = some p → w.heap.size + 2 ≤ p := fun p hp => (hrow2 p hp).1
      have b1' := (B1.out.alloc (.cells #[.int .i64 P] 3)).grown hgrow (fun e => by have := hlr _ e.symm; omega)
      have b0' := (B0.out.alloc (.cells #[.int .i64 P] 3)).grown hgrow (fun e => by have := hlr _ e.symm; omega)
      have x1 := Ext.grown (HX.out.alloc (.cells #[.int .i64 P] 3)) hgrow (fun k hk => by have := hlr k hk; omega)
      have k2' := b1'.cells 2 rfl
      have q2' := b1'.frozen 2
      have z2' := b1'.lt
      obtain ⟨V3, hV⟩ : ∃ V3, V3 = w3.setCell ⟨w.heap.size + 1, 2, none⟩ (.slice (some ⟨gp, 0, none⟩) (j + 1) cp) := ⟨_, rfl⟩
      have B0' : Hid (Blk V3 w.heap.size 101 #[.slice none 0 0, .slice none 0 0, .slice none 0 0, .slice none 0 0]) := Lib.hid (by rw [hV]; exact b0'.far (by simp) _)
      have B1' : Hid (Blk V3 (w.heap.size + 1) 101 #[.slice (some ⟨gk, 0, none⟩) (j + 1) ck, .slice (some ⟨gs, 0, none⟩) (j + 1) cs, .slice (some ⟨gp, 0, none⟩) (j + 1) cp, .slice da j dc]) := Lib.hid (by rw [hV]; exact b1'.set_ 2 _)
      have FA' := Lib.hid ((fam1.set (p := ⟨w.heap.size + 1, 2, none⟩) (u := .slice (some ⟨gp, 0, none⟩) (j + 1) cp) (by simp)).rot)
      rw [← hV] at FA'
      have HX' : Hid (Ext w V3) := Lib.hid (by rw [hV]; exact x1.setCell (by simp) _)
      clear B0 B1 FA HX FR2 e2 g2 zb2 hown hlies hgrow hlr hrow2 b1' b0' x1 fam1
      have B0 := B0'
      have B1 := B1'
      have FA := FA'
      have HX := HX'
      clear B0' B1' FA' HX'
      go_upto_region 8 with (fail)
      rw [← hV]
      clear hV k2' q2' z2'
      have V30 := HX.out.size
      have e3 := B1.out.cells 3 rfl
      have g3 := B1.out.frozen 3
      have zb3 := B1.out.lt
      have FR3 := Lib.hid (FA.out.oa)
      have hrow3 := own_type FA.out.oa
      rw [List.length_replicate] at FR3
      go_wp2_with (at_builtin; refine (show Hid _ from ?_).out)
      refine Lib.hid ?_
      refine wpList_append_lies rfl _ _ 24 rfl (w.heap.size + 2) 3 i0 (.int .i64 0) 1 8 Tryd.underlying24 hi0 hz0 hz1 hz2 rfl (by decide) (.slice da j dc) j ((List.replicate j 1).map (Value.int .i64)) rfl (FR3.out.alloc (.cells #[.int .i64 1] 3)) ⟨V3.heap.size, 0, none⟩ 1 1 [.int .i64 1] rfl rfl (World.news_of_block (cs := #[.int .i64 1]) (t := 3) (fr := (0, 0)) (heap_alloc_new V3 _)) (by simp [Value.oneCell']) (by decide) (by unfold maxLen; omega) (by omega) (by simp; omega) (V3.heap.size + 1) (by simp) ?_
      intro gd cd w4 hown hgrow hlies
      rw [rep_next] at hown
      have fam1 := (FA.out.ext ((Ext.refl V3).alloc (.cells #[.int .i64 1] 3))).app (ya := List.replicate (j + 1) 1) hgrow (by rw [List.length_replicate]; exact hown) (by rcases hlies with h | h; exact .inl h; exact .inr (by rw [h]; simp))
      have hlr : ∀ p, (Value.slice da j dc).ownBlock = some p → w.heap.size + 2 ≤ p := fun p hp => (hrow3 p hp).1
      have b1' := (B1.out.alloc (.cells #[.int .i64 1] 3)).grown hgrow (fun e => by have := hlr _ e.symm; omega)
      have b0' := (B0.out.alloc (.cells #[.int .i64 1] 3)).grown hgrow (fun e => by have := hlr _ e.symm; omega)
      have x1 := Ext.grown (HX.out.alloc (.cells #[.int .i64 1] 3)) hgrow (fun k hk => by have := hlr k hk; omega)
      have k3' := b1'.cells 3 rfl
      have q3' := b1'.frozen 3
      have z3' := b1'.lt
      obtain ⟨V, hV⟩ : ∃ V, V = w4.setCell ⟨w.heap.size + 1, 3, none⟩ (.slice (some ⟨gd, 0, none⟩) (j + 1) cd) := ⟨_, rfl⟩
      have B0' : Hid (Blk V w.heap.size 101 #[.slice none 0 0, .slice none 0 0, .slice none 0 0, .slice none 0 0]) := Lib.hid (by rw [hV]; exact b0'.far (by simp) _)
      have B1' : Hid (Blk V (w.heap.size + 1) 101 #[.slice (some ⟨gk, 0, none⟩) (j + 1) ck, .slice (some ⟨gs, 0, none⟩) (j + 1) cs, .slice (some ⟨gp, 0, none⟩) (j + 1) cp, .slice (some ⟨gd, 0, none⟩) (j + 1) cd]) := Lib.hid (by rw [hV]; exact b1'.set_ 3 _)
      have FA' := Lib.hid ((fam1.set (p := ⟨w.heap.size + 1, 3, none⟩) (u := .slice (some ⟨gd, 0, none⟩) (j + 1) cd) (by simp)).rot)
      rw [← hV] at FA'
      have HX' : Hid (Ext w V) := Lib.hid (by rw [hV]; exact x1.setCell (by simp) _)
      clear B0 B1 FA HX FR3 e3 g3 zb3 hown hlies hgrow hlr hrow3 b1' b0' x1 fam1
      have B0 := B0'
      have B1 := B1'
      have FA := FA'
      have HX := HX'
      clear B0' B1' FA' HX'
      go_wp2_with fail
      rw [← hV]
      go_roundw
      case rel => exact ⟨j + 1, some ⟨gk, 0, none⟩, some ⟨gs, 0, none⟩, some ⟨gp, 0, none⟩, some ⟨gd, 0, none⟩, ck, cs, cp, cd, by omega, by go_num, B0.out, B1.out, FA.out, HX.out⟩
      case measure => simp [intOf]; omega
    · obtain rfl : j = n := by omega
      have hlz : ¬ (j : Int) < (j : Int) := by omega
      have c0 := b1.cells 0 rfl
      have c1 := b1.cells 1 rfl
      have c2 := b1.cells 2 rfl
      have c3 := b1.cells 3 rfl
      have f0 := b0.frozen 0
      have f1 := b0.frozen 1
      have f2 := b0.frozen 2
      have f3 := b0.frozen 3
      have a0 := b0.cells 0 rfl
      have a1 := b0.cells 1 rfl
      have a2 := b0.cells 2 rfl
      have a3 := b0.cells 3 rfl
      have z0 := b1.lt
      have FA := Lib.hid fam
      have HX := Lib.hid hext
      clear fam hext b0 b1
      go_wp2
      simp [bodyPost, results, Tryd.results59, go_sem, *]
      exact ⟨ka, kc, sa, sc, pa, pc, da, dc, ⟨⟨rfl, rfl⟩, ⟨rfl, rfl⟩, ⟨rfl, rfl⟩, rfl, rfl⟩, (((HX.out.setCell (by simp) _).setCell (by simp) _).setCell (by simp) _).setCell (by simp) _, ((((FA.out.set (by simp)).set (by simp)).set (by simp)).set (by simp)).base (by omega)⟩
end Go.Proofs.YtgokenbojppnhaaDoor
namespace Go.Proofs.YtgokenbojppnhaaDoor
open Go.RowKit
attribute [local go_sem ↓] Go.wp_at_zero Go.wp_at_succ
theorem plc_neg {Z T P : Int} {ls : List Int} {k : Nat} (hk : k < ls.length) (h : plcR Z T P (ls.getD k 0) < 1) (ht : 1 ≤ T) : placesS Z T P ls = none := by
  refine places_no hk ?_
  rcases Int.lt_or_le (roomS Z P (ls.getD k 0)) 0 with h1 | h1
  · exact h1
  · rw [plcR_pos (by omega)] at h
    have := Int.ediv_nonneg h1 (show 0 ≤ T by omega)
    omega
theorem plc_room {Z T P l : Int} (h : ¬ plcR Z T P l < 1) : 0 ≤ roomS Z P l ∧ plcR Z T P l = roomS Z P l / T + 1 := by
  rcases Int.lt_or_le (roomS Z P l) 0 with h1 | h1
  · rw [plcR_neg h1] at h; omega
  · exact ⟨h1, plcR_pos (by omega)⟩
theorem plc_bd {Z T P l : Int} (h1 : 1 ≤ l) (h2 : l ≤ 4096) (z0 : 1 ≤ Z) (t0 : 1 ≤ T) (p0 : 0 ≤ P) (p1 : P ≤ 4096) : 0 ≤ plcR Z T P l ∧ plcR Z T P l ≤ 12289 := by
  rcases Int.lt_or_le (roomS Z P l) 0 with h | h
  · rw [plcR_neg h]; omega
  · rw [plcR_pos (by omega)]
    have a := Int.ediv_nonneg h (show 0 ≤ T by omega)
    have b : roomS Z P l / T ≤ roomS Z P l := Int.ediv_le_self T h
    have c : roomS Z P l ≤ 12288 := by unfold roomS; omega
    omega
set_option maxHeartbeats 4000000 in
set_option maxRecDepth 100000 in
theorem spatial_any {ls : List Int} {x0 x1 Z T P : Int} {xa ka sa pa da : Option Addr} {xc kc sc pc dc n : Nat} {w : World} (hx : Row .i64 w (.slice xa (n + 2) xc) (x0 :: x1 :: ls)) (hn : ls.length = n) (hk : Row .i64 w (.slice ka n kc) (List.replicate n Z)) (hs : Row .i64 w (.slice sa n sc) (List.replicate n T)) (hp : Row .i64 w (.slice pa n pc) (List.replicate n P)) (hd : Row .i64 w (.slice da n dc) (List.replicate n 1))
    (hl : n ≤ 4) (hb : ∀ l ∈ ls, 1 ≤ l ∧ l ≤ 4096) (z0 : 1 ≤ Z) (z1 : Z ≤ 4096) (t0 : 1 ≤ T) (t1 : T ≤ 4096) (p0 : 0 ≤ P) (p1 : P ≤ 4096) :
    Calls Tryd.prog 70 #[.slice xa (n + 2) xc, .slice ka n kc, .agg #[.slice ka n kc, .slice sa n sc, .slice pa n pc, .slice da n dc]] w fun e w' =>
      (placesS Z T P ls = none ∧ e = .returned (.tuple #[.slice none 0 0, .bool false]) ∧ Ext w w') ∨
      (∃ p oa oc, placesS Z T P ls = some p ∧ e = .returned (.tuple #[.slice oa p.length oc, .bool true]) ∧ Ext w w' ∧ w'.ownsRow w.heap.size 3 1 (.slice oa p.length oc) p.length (p.map (Value.int .i64))) := by
  obtain ⟨i0, hi0, hz0, hz1, hz2⟩ := info_parts cloneI_info
  have HXR := Lib.hid hx
  have HK := Lib.hid hk
  have HS := Lib.hid hs
  have HP := Lib.hid hp
  have HD := Lib.hid hd
  have HB := Lib.hid hb
  have HN := Lib.hid hn
  clear hx hk hs hp hd hb hn
  go_enter Tryd.func70, Tryd.ntmps70
  go_wp2_with fail
  go_loopw [8, 9] (fun s i wr => ∃ (k : Nat) (oa : Option Addr) (oc : Nat), k ≤ n ∧ i = .int .i64 k ∧ s = .slice oa k oc ∧ Blk wr w.heap.size 101 #[.slice ka n kc, .slice sa n sc, .slice pa n pc, .slice da n dc] ∧ wr.ownsRow (w.heap.size + 1) 3 1 (.slice oa k oc) k ((plcS Z T P (ls.take k)).map (Value.int .i64)) ∧ Ext w wr ∧ ∀ j, j < k → 0 ≤ roomS Z P (ls.getD j 0)) (fun _ i _ => n - (intOf i).toNat)
  case atStart => exact ⟨0, none, 0, Nat.zero_le _, rfl, rfl, Blk.new w _ _, World.ownsRow_nil _ _ _ _, (by repeat (first | with_reducible exact Ext.refl _ | with_reducible apply Ext.drew | with_reducible apply Ext.drewN | with_reducible apply Ext.alloc | ((with_reducible refine Ext.setCell ?_ ?_ _); rotate_left; focus (first | (simp; done) | (simp; omega) | omega)) | with_reducible refine Ext.tr ?_ x1 | with_reducible refine Ext.tr ?_ x2 | with_reducible refine Ext.tr ?_ xa | with_reducible refine Ext.tr ?_ xb | with_reducible refine Ext.tr ?_ xc | with_reducible refine Ext.tr ?_ xd | with_reducible refine Ext.tr ?_ hx | with_reducible refine Ext.tr ?_ hext | with_reducible assumption)), fun j hj => by omega⟩
  case round =>
    obtain ⟨k, oa, oc, hkn, rfl, rfl, bc, hown, hext, hrm⟩ := hrel
    rcases Nat.lt_or_ge k n with hlt | hge
    · obtain ⟨b, o, rfl, cx⟩ := row_cell (HXR.out.ext hext) (i := 2 + k) (by omega)
      obtain ⟨bk, ok, rfl, ck⟩ := row_cell (HK.out.ext hext) hlt
      obtain ⟨bs, os, rfl, cs⟩ := row_cell (HS.out.ext hext) hlt
      obtain ⟨bp, op, rfl, cp⟩ := row_cell (HP.out.ext hext) hlt
      obtain ⟨bd, od, rfl, cd⟩ := row_cell (HD.out.ext hext) hlt
      rw [rep_getD _ hlt] at ck cs cp cd
      obtain ⟨l, hll⟩ : ∃ l, ls.getD k 0 = l := ⟨_, rfl⟩
      have hxl : (x0 :: x1 :: ls).getD (2 + k) 0 = l := by rw [show 2 + k = k + 1 + 1 by omega]; simpa using hll
      rw [hxl] at cx
      obtain ⟨l0, l1⟩ := HB.out l (by rw [← hll]; exact getD_mem ls k (by rw [HN.out]; exact hlt))
      have f1 := bc.cells 1 rfl
      have f2 := bc.cells 2 rfl
      have f3 := bc.cells 3 rfl
      have zb := bc.lt
      obtain ⟨m0, m1⟩ := plc_bd (l := l) l0 l1 z0 t0 p0 p1
      have PR := Lib.hid (fun u => placesR_any l Z T P u l0 l1 z0 z1 t0 t1 p0 p1)
      obtain ⟨q, hq⟩ : ∃ q, plcR Z T P l = q := ⟨_, rfl⟩
      rw [hq] at PR m0 m1
      have HQ := Lib.hid hq
      have LL := Lib.hid hll
      have BC := Lib.hid bc
      have OW := Lib.hid hown
      have HX := Lib.hid hext
      have RM := Lib.hid hrm
      have k0 : (0 : Int) ≤ (k : Int) := by omega
      have k1 : (k : Int) < (n : Int) := by omega
      have k2 : (0 : Int) ≤ 2 + (k : Int) := by omega
      have k3 : 2 + (k : Int) < (n : Int) + 2 := by omega
      have w1 : IntKind.i64.wrap (2 + (k : Int)) = 2 + (k : Int) := by rw [IntKind.wrap_i64]; omega
      have k4 : (2 + (k : Int)).toNat = 2 + k := by omega
      clear hq hll hxl bc hown hext hrm
      by_cases hneg : q < 1
      · have NO : Hid (placesS Z T P ls = none) := Lib.hid (plc_neg (k := k) (by rw [HN.out]; exact hlt) (by rw [LL.out, HQ.out]; exact hneg) t0)
        clear OW RM BC
        go_wp2_with fail
        go_quiet ((go_at_call 86; exact q0 (PR.out _)))
        go_wp2
        go_ret2
        have hext := HX.out
        exact .inl ⟨NO.out, rfl, (by repeat (first | with_reducible exact Ext.refl _ | with_reducible apply Ext.drew | with_reducible apply Ext.drewN | with_reducible apply Ext.alloc | ((with_reducible refine Ext.setCell ?_ ?_ _); rotate_left; focus (first | (simp; done) | (simp; omega) | omega)) | with_reducible refine Ext.tr ?_ x1 | with_reducible refine Ext.tr ?_ x2 | with_reducible refine Ext.tr ?_ xa | with_reducible refine Ext.tr ?_ xb | with_reducible refine Ext.tr ?_ xc | with_reducible refine Ext.tr ?_ xd | with_reducible refine Ext.tr ?_ hx | with_reducible refine Ext.tr ?_ hext | with_reducible assumption))⟩
      · obtain ⟨r0, r1⟩ := plc_room (by rw [HQ.out]; exact hneg)
        rw [HQ.out] at r1
        have PL : Hid (plcS Z T P (ls.take (k + 1)) = plcS Z T P (ls.take k) ++ [q]) := Lib.hid (by rw [plc_take Z T P ls k (by rw [HN.out]; exact hlt), LL.out, ← r1])
        have NEWR : Hid (∀ j, j < k + 1 → 0 ≤ roomS Z P (ls.getD j 0)) := Lib.hid (fun j hj => by
          rcases Nat.lt_succ_iff_lt_or_eq.1 hj with h | rfl
          · exact RM.out j h
          · rw [LL.out]; exact r0)
        have hrow := own_type OW.out
        clear r0 r1 RM
        go_wp2_with fail
        go_quiet ((go_at_call 86; exact q0 (PR.out _)))
        rename_i nq
        obtain ⟨V, hV⟩ : ∃ V, wr.drewN nq = V := ⟨_, rfl⟩
        have xV : Ext wr V := by rw [← hV]; exact (Ext.refl wr).drewN _
        rw [hV]
        have OV := Lib.hid (own_old OW.out xV)
        have CV := Lib.hid (BC.out.ext xV)
        have HV := Lib.hid (HX.out.tr xV)
        have zV := HV.out.size
        have zc := CV.out.lt
        have hrow := own_type OV.out
        clear hV xV OW BC HX
        go_wp2_with (at_builtin; refine (show Hid _ from ?_).out)
        refine Lib.hid ?_
        refine wpList_append_lies rfl _ _ 24 rfl (w.heap.size + 1) 3 i0 (.int .i64 0) 1 8 Tryd.underlying24 hi0 hz0 hz1 hz2 rfl (by decide) (.slice oa k oc) k ((plcS Z T P (ls.take k)).map (Value.int .i64)) rfl (OV.out.alloc (.cells #[.int .i64 q] 3)) ⟨V.heap.size, 0, none⟩ 1 1 [.int .i64 q] rfl rfl (World.news_of_block (cs := #[.int .i64 q]) (t := 3) (fr := (0, 0)) (heap_alloc_new V _)) (by simp [Value.oneCell']) (by decide) (by unfold maxLen; omega) (by omega) (by simp; omega) (V.heap.size + 1) (by simp) ?_
        intro gg cc w1 hown1 hgrow _
        have x1 : Ext w w1 := Ext.grown (HV.out.alloc (.cells #[.int .i64 q] 3)) hgrow (fun r hr => by have := (hrow r hr).1; omega)
        have c1 := (CV.out.alloc (.cells #[.int .i64 q] 3)).grown hgrow (fun e => by have := (hrow _ e.symm).1; omega)
        have OWN : Hid (w1.ownsRow (w.heap.size + 1) 3 1 (.slice (some ⟨gg, 0, none⟩) (k + 1) cc) (k + 1) ((plcS Z T P (ls.take (k + 1))).map (Value.int .i64))) := Lib.hid (by rw [PL.out, List.map_append]; exact hown1)
        have C1 := Lib.hid c1
        have X1 := Lib.hid x1
        clear hown1 hgrow c1 x1 hrow
        go_wp2_with fail
        go_roundw
        case rel => exact ⟨k + 1, some ⟨gg, 0, none⟩, cc, by omega, by go_num, rfl, C1.out, OWN.out, X1.out, NEWR.out⟩
        case measure => simp [intOf]; omega
    · obtain rfl : k = n := by omega
      have hlz : ¬ (k : Int) < (k : Int) := by omega
      have YES : Hid (placesS Z T P ls = some (plcS Z T P ls)) := Lib.hid (places_yes (fun j hj => hrm j (by rw [← HN.out]; exact hj)))
      rw [List.take_of_length_le (by rw [HN.out]; exact Nat.le_refl _)] at hown
      have LE : (plcS Z T P ls).length = k := by simp [plcS, HN.out]
      have OW := Lib.hid hown
      have HX := Lib.hid hext
      have LE' := Lib.hid LE
      clear hown hext hrm LE bc
      go_wp2
      go_ret2
      exact .inr ⟨_, YES.out, oa, oc, (by rw [LE'.out]; rfl), HX.out, by rw [LE'.out]; exact own_base OW.out (by omega)⟩
set_option maxHeartbeats 4000000 in
set_option maxRecDepth 100000 in
theorem rplaces_any {ls : List Int} {u0 Z T P : Int} {xa ka sa pa da : Option Addr} {xc kc sc pc dc n : Nat} {w : World} (hx : Row .i64 w (.slice xa (n + 1) xc) (u0 :: ls)) (hn : ls.length = n) (hk : Row .i64 w (.slice ka n kc) (List.replicate n Z)) (hs : Row .i64 w (.slice sa n sc) (List.replicate n T)) (hp : Row .i64 w (.slice pa n pc) (List.replicate n P)) (hd : Row .i64 w (.slice da n dc) (List.replicate n 1))
    (hl : n ≤ 4) (hb : ∀ l ∈ ls, 1 ≤ l ∧ l ≤ 4096) (z0 : 1 ≤ Z) (z1 : Z ≤ 4096) (t0 : 1 ≤ T) (t1 : T ≤ 4096) (p0 : 0 ≤ P) (p1 : P ≤ 4096) :
    Calls Tryd.prog 58 #[.slice xa (n + 1) xc, .agg #[.slice ka n kc, .slice sa n sc, .slice pa n pc, .slice da n dc]] w fun e w' =>
      (placesS Z T P ls = none ∧ e = .returned (.tuple #[.slice none 0 0, .bool false]) ∧ Ext w w') ∨
      (∃ p oa oc, placesS Z T P ls = some p ∧ e = .returned (.tuple #[.slice oa p.length oc, .bool true]) ∧ Ext w w' ∧ w'.ownsRow w.heap.size 3 1 (.slice oa p.length oc) p.length (p.map (Value.int .i64))) := by
  obtain ⟨i0, hi0, hz0, hz1, hz2⟩ := info_parts cloneI_info
  have HXR := Lib.hid hx
  have SP := Lib.hid (fun (u : World) (g : Option Addr) (c : Nat) (x : Ext w u) (hr : Row .i64 u (.slice g (n + 2) c) (1 :: u0 :: ls)) => spatial_any hr hn (hk.ext x) (hs.ext x) (hp.ext x) (hd.ext x) hl hb z0 z1 t0 t1 p0 p1)
  go_enter Tryd.func58, Tryd.ntmps58
  go_wp2_with fail
  obtain ⟨V, hV⟩ : ∃ V, w.alloc (.cells #[.slice ka n kc, .slice sa n sc, .slice pa n pc, .slice da n dc] 101) = V := ⟨_, rfl⟩
  have BV : Blk V w.heap.size 101 #[.slice ka n kc, .slice sa n sc, .slice pa n pc, .slice da n dc] := by rw [← hV]; exact Blk.new _ _ _
  have hx : Ext w V := by rw [← hV]; exact (Ext.refl w).alloc _
  rw [hV]
  have HXW := Lib.hid hx
  have HXV := Lib.hid (HXR.out.ext hx)
  have c0 := BV.cells 0 rfl
  have c1 := BV.cells 1 rfl
  have c2 := BV.cells 2 rfl
  have c3 := BV.cells 3 rfl
  have zb := BV.lt
  have HN := Lib.hid hn
  clear hV BV hk hs hp hd hb hx
  cases hPS : placesS Z T P ls with
  | none =>
    have SPN := Lib.hid (fun (u : World) (g : Option Addr) (c : Nat) (x : Ext V u) (hr : Row .i64 u (.slice g (n + 2) c) (1 :: u0 :: ls)) => (SP.out u g c (HXW.out.tr x) hr).mono (R' := fun e w' => e = .returned (.tuple #[.slice none 0 0, .bool false]) ∧ Ext u w') (fun e w' h => by rcases h with ⟨-, h1, h2⟩ | ⟨p, oa, oc, h1, -⟩; exact ⟨h1, h2⟩; rw [hPS] at h1; cases h1))
    have HPS := Lib.hid hPS
    clear SP hPS hn
    go_region_held3 (fun w' => w'.cell? ⟨w.heap.size, 0, none⟩ = some (.slice ka n kc) ∧ w'.cell? ⟨w.heap.size, 1, none⟩ = some (.slice sa n sc) ∧ w'.cell? ⟨w.heap.size, 2, none⟩ = some (.slice pa n pc) ∧ w'.cell? ⟨w.heap.size, 3, none⟩ = some (.slice da n dc) ∧ w.heap.size < w'.heap.size ∧ Ext V w')
      (refine ⟨?_, ?_, ?_, ?_, ?_, ?_⟩ <;> first | (simp [go_sem, *]; done) | omega | (simp at z1; omega) | (simp at z2; omega) | (simp at z3; omega) | (simp at z4; omega) | exact (by repeat (first | with_reducible exact Ext.refl _ | with_reducible apply Ext.drew | with_reducible apply Ext.drewN | with_reducible apply Ext.alloc | ((with_reducible refine Ext.setCell ?_ ?_ _); rotate_left; focus (first | (simp; done) | (simp; omega) | omega)) | with_reducible refine Ext.tr ?_ x1 | with_reducible refine Ext.tr ?_ x2 | with_reducible refine Ext.tr ?_ xa | with_reducible refine Ext.tr ?_ xb | with_reducible refine Ext.tr ?_ xc | with_reducible refine Ext.tr ?_ xd | with_reducible refine Ext.tr ?_ hx | with_reducible refine Ext.tr ?_ hext | with_reducible assumption)))
      (first
        | ((refine step_append_row (k := .i64) rfl (.tmp 6) (.tmp 7) 24 rfl V.heap.size 3 i0 (.int .i64 0) 8 Tryd.underlying24 hi0 hz0 hz1 hz2 rfl (rowG V.heap.size 1) 1 [.int .i64 1] (by simp [Act.eval]) (World.ownsRow_lit V #[.int .i64 1] 1 (Nat.le_refl _) (by unfold maxLen; omega) rfl) (.slice xa (n + 1) xc) (by simp [Act.eval]) (u0 :: ls) (HXV.out.ext (by repeat (first | with_reducible exact Ext.refl _ | with_reducible apply Ext.drew | with_reducible apply Ext.drewN | with_reducible apply Ext.alloc | ((with_reducible refine Ext.setCell ?_ ?_ _); rotate_left; focus (first | (simp; done) | (simp; omega) | omega)) | with_reducible refine Ext.tr ?_ x1 | with_reducible refine Ext.tr ?_ x2 | with_reducible refine Ext.tr ?_ xa | with_reducible refine Ext.tr ?_ xb | with_reducible refine Ext.tr ?_ xc | with_reducible refine Ext.tr ?_ xd | with_reducible refine Ext.tr ?_ hx | with_reducible refine Ext.tr ?_ hext | with_reducible assumption))) (n + 2) (by simp [HN.out]; omega) (by unfold maxLen; omega) (by omega) (by simp) ?_; intro va2 vc2 w1 hown1 hgrow1; have x1 : Ext V w1 := Ext.grown (show Ext V _ from (Ext.alloc (Ext.refl _) _)) hgrow1 (fun k hk => by simp [Value.ownBlock] at hk; omega); have R1 := Lib.hid (Row.of_owns (k := .i64) (xs := 1 :: u0 :: ls) hown1).1; have e0 := x1.cell c0; have e1 := x1.cell c1; have e2 := x1.cell c2; have e3 := x1.cell c3; have ez := cell_lt e0; simp only at ez; clear hown1 hgrow1))
        | ((refine step_append_row (k := .i64) rfl (.tmp 6) (.tmp 7) 24 rfl V.heap.size 3 i0 (.int .i64 0) 8 Tryd.underlying24 hi0 hz0 hz1 hz2 rfl (rowG V.heap.size 1) 1 [.int .i64 1] (by simp [Act.eval]) ((World.ownsRow_lit V #[.int .i64 1] 1 (Nat.le_refl _) (by unfold maxLen; omega) rfl).drew) (.slice xa (n + 1) xc) (by simp [Act.eval]) (u0 :: ls) (HXV.out.ext (by repeat (first | with_reducible exact Ext.refl _ | with_reducible apply Ext.drew | with_reducible apply Ext.drewN | with_reducible apply Ext.alloc | ((with_reducible refine Ext.setCell ?_ ?_ _); rotate_left; focus (first | (simp; done) | (simp; omega) | omega)) | with_reducible refine Ext.tr ?_ x1 | with_reducible refine Ext.tr ?_ x2 | with_reducible refine Ext.tr ?_ xa | with_reducible refine Ext.tr ?_ xb | with_reducible refine Ext.tr ?_ xc | with_reducible refine Ext.tr ?_ xd | with_reducible refine Ext.tr ?_ hx | with_reducible refine Ext.tr ?_ hext | with_reducible assumption))) (n + 2) (by simp [HN.out]; omega) (by unfold maxLen; omega) (by omega) (by simp) ?_; intro va2 vc2 w1 hown1 hgrow1; have x1 : Ext V w1 := Ext.grown (show Ext V _ from (Ext.drew (Ext.alloc (Ext.refl _) _))) hgrow1 (fun k hk => by simp [Value.ownBlock] at hk; omega); have R1 := Lib.hid (Row.of_owns (k := .i64) (xs := 1 :: u0 :: ls) hown1).1; have e0 := x1.cell c0; have e1 := x1.cell c1; have e2 := x1.cell c2; have e3 := x1.cell c3; have ez := cell_lt e0; simp only at ez; clear hown1 hgrow1))
        | (go_at_call 70; refine (SPN.out _ _ _ (by repeat (first | with_reducible exact Ext.refl _ | with_reducible apply Ext.drew | with_reducible apply Ext.drewN | with_reducible apply Ext.alloc | ((with_reducible refine Ext.setCell ?_ ?_ _); rotate_left; focus (first | (simp; done) | (simp; omega) | omega)) | with_reducible refine Ext.tr ?_ x1 | with_reducible refine Ext.tr ?_ x2 | with_reducible refine Ext.tr ?_ xa | with_reducible refine Ext.tr ?_ xb | with_reducible refine Ext.tr ?_ xc | with_reducible refine Ext.tr ?_ xd | with_reducible refine Ext.tr ?_ hx | with_reducible refine Ext.tr ?_ hext | with_reducible assumption)) (R1.out.ext (by repeat (first | with_reducible exact Ext.refl _ | with_reducible apply Ext.drew | with_reducible apply Ext.drewN | with_reducible apply Ext.alloc | ((with_reducible refine Ext.setCell ?_ ?_ _); rotate_left; focus (first | (simp; done) | (simp; omega) | omega)) | with_reducible refine Ext.tr ?_ x1 | with_reducible refine Ext.tr ?_ x2 | with_reducible refine Ext.tr ?_ xa | with_reducible refine Ext.tr ?_ xb | with_reducible refine Ext.tr ?_ xc | with_reducible refine Ext.tr ?_ xd | with_reducible refine Ext.tr ?_ hx | with_reducible refine Ext.tr ?_ hext | with_reducible assumption)))).mono ?_; rintro e v2 ⟨rfl, x2⟩; clear SPN; have d0 := x2.cell e0; have d1 := x2.cell e1; have d2 := x2.cell e2; have d3 := x2.cell e3; have dz := cell_lt d0; simp only at dz))
    all_goals
      go_wp2
      go_ret2
      have hx := HXW.out
      exact .inl ⟨HPS.out, rfl, hx.tr (by repeat (first | with_reducible exact Ext.refl _ | with_reducible apply Ext.drew | with_reducible apply Ext.drewN | with_reducible apply Ext.alloc | ((with_reducible refine Ext.setCell ?_ ?_ _); rotate_left; focus (first | (simp; done) | (simp; omega) | omega)) | with_reducible refine Ext.tr ?_ x1 | with_reducible refine Ext.tr ?_ x2 | with_reducible refine Ext.tr ?_ xa | with_reducible refine Ext.tr ?_ xb | with_reducible refine Ext.tr ?_ xc | with_reducible refine Ext.tr ?_ xd | with_reducible refine Ext.tr ?_ hx | with_reducible refine Ext.tr ?_ hext | with_reducible assumption))⟩
  | some p =>
    have SPN := Lib.hid (fun (u : World) (g : Option Addr) (c : Nat) (x : Ext V u) (hr : Row .i64 u (.slice g (n + 2) c) (1 :: u0 :: ls)) => (SP.out u g c (HXW.out.tr x) hr).mono (R' := fun e w' => ∃ oa oc, e = .returned (.tuple #[.slice oa p.length oc, .bool true]) ∧ Ext u w' ∧ w'.ownsRow u.heap.size 3 1 (.slice oa p.length oc) p.length (p.map (Value.int .i64))) (fun e w' h => by rcases h with ⟨h1, -⟩ | ⟨q, oa, oc, h1, h2⟩; (rw [hPS] at h1; cases h1); rw [hPS] at h1; cases h1; exact ⟨oa, oc, h2⟩))
    have HPS := Lib.hid hPS
    clear SP hPS hn
    go_region_held3 (fun w' => w'.cell? ⟨w.heap.size, 0, none⟩ = some (.slice ka n kc) ∧ w'.cell? ⟨w.heap.size, 1, none⟩ = some (.slice sa n sc) ∧ w'.cell? ⟨w.heap.size, 2, none⟩ = some (.slice pa n pc) ∧ w'.cell? ⟨w.heap.size, 3, none⟩ = some (.slice da n dc) ∧ w.heap.size < w'.heap.size ∧ Ext V w')
      (refine ⟨?_, ?_, ?_, ?_, ?_, ?_⟩ <;> first | (simp [go_sem, *]; done) | omega | (simp at z1; omega) | (simp at z2; omega) | (simp at z3; omega) | (simp at z4; omega) | exact (by repeat (first | with_reducible exact Ext.refl _ | with_reducible apply Ext.drew | with_reducible apply Ext.drewN | with_reducible apply Ext.alloc | ((with_reducible refine Ext.setCell ?_ ?_ _); rotate_left; focus (first | (simp; done) | (simp; omega) | omega)) | with_reducible refine Ext.tr ?_ x1 | with_reducible refine Ext.tr ?_ x2 | with_reducible refine Ext.tr ?_ xa | with_reducible refine Ext.tr ?_ xb | with_reducible refine Ext.tr ?_ xc | with_reducible refine Ext.tr ?_ xd | with_reducible refine Ext.tr ?_ hx | with_reducible refine Ext.tr ?_ hext | with_reducible assumption)))
      (first
        | ((refine step_append_row (k := .i64) rfl (.tmp 6) (.tmp 7) 24 rfl V.heap.size 3 i0 (.int .i64 0) 8 Tryd.underlying24 hi0 hz0 hz1 hz2 rfl (rowG V.heap.size 1) 1 [.int .i64 1] (by simp [Act.eval]) (World.ownsRow_lit V #[.int .i64 1] 1 (Nat.le_refl _) (by unfold maxLen; omega) rfl) (.slice xa (n + 1) xc) (by simp [Act.eval]) (u0 :: ls) (HXV.out.ext (by repeat (first | with_reducible exact Ext.refl _ | with_reducible apply Ext.drew | with_reducible apply Ext.drewN | with_reducible apply Ext.alloc | ((with_reducible refine Ext.setCell ?_ ?_ _); rotate_left; focus (first | (simp; done) | (simp; omega) | omega)) | with_reducible refine Ext.tr ?_ x1 | with_reducible refine Ext.tr ?_ x2 | with_reducible refine Ext.tr ?_ xa | with_reducible refine Ext.tr ?_ xb | with_reducible refine Ext.tr ?_ xc | with_reducible refine Ext.tr ?_ xd | with_reducible refine Ext.tr ?_ hx | with_reducible refine Ext.tr ?_ hext | with_reducible assumption))) (n + 2) (by simp [HN.out]; omega) (by unfold maxLen; omega) (by omega) (by simp) ?_; intro va2 vc2 w1 hown1 hgrow1; have x1 : Ext V w1 := Ext.grown (show Ext V _ from (Ext.alloc (Ext.refl _) _)) hgrow1 (fun k hk => by simp [Value.ownBlock] at hk; omega); have R1 := Lib.hid (Row.of_owns (k := .i64) (xs := 1 :: u0 :: ls) hown1).1; have e0 := x1.cell c0; have e1 := x1.cell c1; have e2 := x1.cell c2; have e3 := x1.cell c3; have ez := cell_lt e0; simp only at ez; clear hown1 hgrow1))
        | ((refine step_append_row (k := .i64) rfl (.tmp 6) (.tmp 7) 24 rfl V.heap.size 3 i0 (.int .i64 0) 8 Tryd.underlying24 hi0 hz0 hz1 hz2 rfl (rowG V.heap.size 1) 1 [.int .i64 1] (by simp [Act.eval]) ((World.ownsRow_lit V #[.int .i64 1] 1 (Nat.le_refl _) (by unfold maxLen; omega) rfl).drew) (.slice xa (n + 1) xc) (by simp [Act.eval]) (u0 :: ls) (HXV.out.ext (by repeat (first | with_reducible exact Ext.refl _ | with_reducible apply Ext.drew | with_reducible apply Ext.drewN | with_reducible apply Ext.alloc | ((with_reducible refine Ext.setCell ?_ ?_ _); rotate_left; focus (first | (simp; done) | (simp; omega) | omega)) | with_reducible refine Ext.tr ?_ x1 | with_reducible refine Ext.tr ?_ x2 | with_reducible refine Ext.tr ?_ xa | with_reducible refine Ext.tr ?_ xb | with_reducible refine Ext.tr ?_ xc | with_reducible refine Ext.tr ?_ xd | with_reducible refine Ext.tr ?_ hx | with_reducible refine Ext.tr ?_ hext | with_reducible assumption))) (n + 2) (by simp [HN.out]; omega) (by unfold maxLen; omega) (by omega) (by simp) ?_; intro va2 vc2 w1 hown1 hgrow1; have x1 : Ext V w1 := Ext.grown (show Ext V _ from (Ext.drew (Ext.alloc (Ext.refl _) _))) hgrow1 (fun k hk => by simp [Value.ownBlock] at hk; omega); have R1 := Lib.hid (Row.of_owns (k := .i64) (xs := 1 :: u0 :: ls) hown1).1; have e0 := x1.cell c0; have e1 := x1.cell c1; have e2 := x1.cell c2; have e3 := x1.cell c3; have ez := cell_lt e0; simp only at ez; clear hown1 hgrow1))
        | (go_at_call 70; refine (SPN.out _ _ _ (by repeat (first | with_reducible exact Ext.refl _ | with_reducible apply Ext.drew | with_reducible apply Ext.drewN | with_reducible apply Ext.alloc | ((with_reducible refine Ext.setCell ?_ ?_ _); rotate_left; focus (first | (simp; done) | (simp; omega) | omega)) | with_reducible refine Ext.tr ?_ x1 | with_reducible refine Ext.tr ?_ x2 | with_reducible refine Ext.tr ?_ xa | with_reducible refine Ext.tr ?_ xb | with_reducible refine Ext.tr ?_ xc | with_reducible refine Ext.tr ?_ xd | with_reducible refine Ext.tr ?_ hx | with_reducible refine Ext.tr ?_ hext | with_reducible assumption)) (R1.out.ext (by repeat (first | with_reducible exact Ext.refl _ | with_reducible apply Ext.drew | with_reducible apply Ext.drewN | with_reducible apply Ext.alloc | ((with_reducible refine Ext.setCell ?_ ?_ _); rotate_left; focus (first | (simp; done) | (simp; omega) | omega)) | with_reducible refine Ext.tr ?_ x1 | with_reducible refine Ext.tr ?_ x2 | with_reducible refine Ext.tr ?_ xa | with_reducible refine Ext.tr ?_ xb | with_reducible refine Ext.tr ?_ xc | with_reducible refine Ext.tr ?_ xd | with_reducible refine Ext.tr ?_ hx | with_reducible refine Ext.tr ?_ hext | with_reducible assumption)))).mono ?_; rintro e v2 ⟨oa, oc, rfl, x2, o2⟩; clear SPN; have O2 := Lib.hid o2; clear o2; have d0 := x2.cell e0; have d1 := x2.cell e1; have d2 := x2.cell e2; have d3 := x2.cell e3; have dz := cell_lt d0; simp only at dz))
    all_goals
      go_wp2
      go_ret2
      have hx := HXW.out
      exact .inr ⟨p, oa, oc, HPS.out, rfl, hx.tr (by repeat (first | with_reducible exact Ext.refl _ | with_reducible apply Ext.drew | with_reducible apply Ext.drewN | with_reducible apply Ext.alloc | ((with_reducible refine Ext.setCell ?_ ?_ _); rotate_left; focus (first | (simp; done) | (simp; omega) | omega)) | with_reducible refine Ext.tr ?_ x1 | with_reducible refine Ext.tr ?_ x2 | with_reducible refine Ext.tr ?_ xa | with_reducible refine Ext.tr ?_ xb | with_reducible refine Ext.tr ?_ xc | with_reducible refine Ext.tr ?_ xd | with_reducible refine Ext.tr ?_ hx | with_reducible refine Ext.tr ?_ hext | with_reducible assumption)), own_base (own_old O2.out (by repeat (first | with_reducible exact Ext.refl _ | with_reducible apply Ext.drew | with_reducible apply Ext.drewN | with_reducible apply Ext.alloc | ((with_reducible refine Ext.setCell ?_ ?_ _); rotate_left; focus (first | (simp; done) | (simp; omega) | omega)) | with_reducible refine Ext.tr ?_ x1 | with_reducible refine Ext.tr ?_ x2 | with_reducible refine Ext.tr ?_ xa | with_reducible refine Ext.tr ?_ xb | with_reducible refine Ext.tr ?_ xc | with_reducible refine Ext.tr ?_ xd | with_reducible refine Ext.tr ?_ hx | with_reducible refine Ext.tr ?_ hext | with_reducible assumption))) (by have := hx.size; simp; omega)⟩
end Go.Proofs.YtgokenbojppnhaaDoor
