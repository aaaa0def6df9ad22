/- ratchetref90.NText: the decimal of a number. ratchetref90.short, its row; NText: the walk. ref90: NDivide. ref90: NGcd. ref90: Int, first part. ref90: Int, Times, Plus. ref90: Int, Plus, Less, Cmp. ref90: Int, Less, Cmp. ratchetref90.Text of numbers from 0 on; ratchetref26.row. ratchetref26.printed, Print: a good definition's text. -/
import Derived.Test.YtgokenbojppnhaaDoorNm1
import Derived.Test.YtgokenbojppnhaaDoorGb
import Derived.Test.YtgokenbojppnhaaDoorDefNum2
import Derived.Deep.LoopGhost
import Derived.Laws.BytesArg
import Derived.Lib.ItoaNum
import Derived.Test.YtgokenbojppnhaaDoorFx
import Derived.Deep.RegionHeld3
import Derived.Test.YtgokenbojppnhaaDoorDefPrint
import Derived.Test.YtgokenbojppnhaaDoorDefMay
import Derived.Test.YtgokenbojppnhaaDoorRefMay1
import Derived.Test.YtgokenbojppnhaaDoorRefMay3
import Derived.Test.YtgokenbojppnhaaDoorDefPrint3
namespace Go.Proofs.YtgokenbojppnhaaDoor
open Go.RowKit
theorem infoN8 : (Tryd.prog.info? 5).map (fun i => (i.zero, i.size, i.bytes)) = some (some (.int .u8 0), 1, 1) := by kernel_rfl
/-- Digits as bytes, the lowest first, and their number. -/
def DecN (ds : List Int) : Prop := ∀ d ∈ ds, 48 ≤ d ∧ d ≤ 57
def numD : List Int → Int
  | [] => 0
  | d :: ds => (d - 48) + 10 * numD ds
theorem DecN.snoc {ds : List Int} {d : Int} (h : DecN ds) (h1 : 48 ≤ d) (h2 : d ≤ 57) : DecN (ds ++ [d]) := fun e he => by
  rcases List.mem_append.1 he with h' | h'
  · exact h e h'
  · simp at h'; subst h'; exact ⟨h1, h2⟩
theorem DecN.take {ds : List Int} (h : DecN ds) (n : Nat) : DecN (ds.take n) := fun d hd => h d (List.mem_of_mem_take hd)
theorem numD_snoc : ∀ (ds : List Int) (d : Int), numD (ds ++ [d]) = numD ds + 10 ^ ds.length * (d - 48)
  | [], d => by simp [numD]
  | e :: ds, d => by
    rw [List.cons_append, numD, numD_snoc ds d, numD, List.length_cons, Int.pow_succ, Int.mul_add, Int.mul_comm (10 ^ ds.length) 10, Int.mul_assoc]
    omega
theorem numD_pos : ∀ {ds : List Int}, DecN ds → (h : ds ≠ []) → ds.getLast h ≠ 48 → 1 ≤ numD ds
  | [d], hd, _, hl => by
    have := hd d (by simp)
    simp only [List.getLast_singleton] at hl
    simp [numD]; omega
  | d :: e :: ds, hd, _, hl => by
    rw [List.getLast_cons (by simp)] at hl
    have := numD_pos (ds := e :: ds) (fun x hx => hd x (by simp [hx])) (by simp) hl
    have := hd d (by simp)
    rw [numD]; omega
theorem dec_rev : ∀ {ds : List Int}, DecN ds → (h : ds ≠ []) → ds.getLast h ≠ 48 → (ds.reverse.map fun n => UInt8.ofNat n.toNat) = Lib.decDigits (numD ds).toNat
  | [d], hd, _, _ => by
    obtain ⟨h1, h2⟩ := hd d (by simp)
    rw [Lib.decDigits, dif_pos (by simp [numD]; omega)]
    simp only [List.reverse_singleton, List.map_cons, List.map_nil, numD]
    rw [show (48 + (d - 48 + 10 * 0).toNat) = d.toNat by omega]
  | d :: e :: ds, hd, _, hl => by
    rw [List.getLast_cons (by simp)] at hl
    have hd' : DecN (e :: ds) := fun x hx => hd x (by simp [hx])
    have ih := dec_rev (ds := e :: ds) hd' (by simp) hl
    have hp := numD_pos hd' (by simp) hl
    obtain ⟨h1, h2⟩ := hd d (by simp)
    rw [Lib.decDigits, dif_neg (by rw [numD]; omega), List.reverse_cons, List.map_append, ih]
    have e1 : (numD (d :: e :: ds)).toNat / 10 = (numD (e :: ds)).toNat := by rw [numD]; omega
    have e2 : 48 + (numD (d :: e :: ds)).toNat % 10 = d.toNat := by rw [numD]; omega
    rw [e1, e2]
    rfl
theorem numD_take {ds : List Int} {n : Nat} (h : n + 1 ≤ ds.length) (h48 : ds.getD n 0 = 48) : numD (ds.take (n + 1)) = numD (ds.take n) := by
  have e : ds[n]'(by omega) = 48 := by rwa [List.getD_eq_getElem?_getD, List.getElem?_eq_getElem (by omega)] at h48
  rw [List.take_succ_eq_append_getElem (by omega), numD_snoc, e]
  simp
theorem last_take {ds : List Int} {n : Nat} (h : n + 1 ≤ ds.length) (hn : ds.take (n + 1) ≠ []) : (ds.take (n + 1)).getLast hn = ds.getD n 0 := by
  rw [List.getLast_eq_getElem, List.getD_eq_getElem?_getD, List.getElem?_eq_getElem (by omega)]
  simp only [List.length_take, List.getElem_take, Option.getD_some]
  congr 1
  omega
/-- Within a block of nine digits. -/
structure TxRel (N Q : Int) (k : Nat) (r : Int) (ds : List Int) : Prop where
  k9 : k ≤ 9
  r0 : 0 ≤ r
  r1 : r < 10 ^ (9 - k)
  dec : DecN ds
  is : N = numD ds + 10 ^ ds.length * (r + 10 ^ (9 - k) * Q)
theorem TxRel.start {N X : Int} {ds : List Int} (_hX : 0 ≤ X) (hd : DecN ds) (h : N = numD ds + 10 ^ ds.length * X) : TxRel N (X / 1000000000) 0 (X % 1000000000) ds := by
  refine ⟨by omega, by omega, ?_, hd, ?_⟩
  · show _ < (10 : Int) ^ 9
    rw [show (10 : Int) ^ 9 = 1000000000 by decide]; omega
  · rw [h, show (9 - 0) = 9 from rfl, show (10 : Int) ^ 9 = 1000000000 by decide, show X % 1000000000 + 1000000000 * (X / 1000000000) = X by omega]
theorem TxRel.small {N Q r : Int} {k : Nat} {ds : List Int} (h : TxRel N Q k r ds) : r < 1000000000 := by
  have := h.r1
  have := pow_mono' (show (1 : Int) ≤ 10 by omega) (show 9 - k ≤ 9 by omega)
  rw [show (10 : Int) ^ 9 = 1000000000 by decide] at this
  omega
theorem TxRel.step {N Q r : Int} {k : Nat} {ds : List Int} (h : TxRel N Q k r ds) (hk : k < 9) : TxRel N Q (k + 1) (r / 10) (ds ++ [48 + r % 10]) := by
  have r0 := h.r0
  have r1 := h.r1
  have e : (10 : Int) ^ (9 - k) = 10 ^ (9 - (k + 1)) * 10 := by rw [← Int.pow_succ]; congr 1; omega
  refine ⟨by omega, by omega, ?_, h.dec.snoc (by omega) (by omega), ?_⟩
  · rw [e] at r1; omega
  · rw [h.is, numD_snoc, List.length_append, List.length_singleton, Int.pow_succ, e, show 48 + r % 10 - 48 = r % 10 by omega, Int.add_assoc, Int.mul_assoc (10 ^ ds.length) 10, ← Int.mul_add]
    congr 2
    rw [Int.mul_add, Int.mul_comm (10 ^ (9 - (k + 1))) 10, Int.mul_assoc]
    omega
theorem TxRel.done {N Q r : Int} {ds : List Int} (h : TxRel N Q 9 r ds) : N = numD ds + 10 ^ ds.length * Q ∧ DecN ds := by
  have r0 := h.r0
  have r1 := h.r1
  have e := h.is
  rw [show 9 - 9 = 0 from rfl, Int.pow_zero] at r1 e
  rw [show r + 1 * Q = Q by omega] at e
  exact ⟨e, h.dec⟩
/-- A number's halves in a block that is known whole. -/
structure HalfBlk (w : World) (b0 : Nat) (v : Value) (x : Int) (L : Nat) : Prop where
  is : ∃ g cap cur ds, v = .slice (some ⟨g, 0, none⟩) ds.length cap ∧ b0 ≤ g ∧ Blk w g 107 cur ∧ (∀ i, i < ds.length → cur[i]? = some (.int .u32 (ds.getD i 0))) ∧ ds.length ≤ cap ∧ cap ≤ maxLen ∧ Digs B32 ds ∧ Neat ds ∧ val B32 ds = x ∧ ds.length ≤ L
theorem HalfBlk.at {w : World} {b0 : Nat} {v : Value} {x : Int} {L : Nat} (h : HalfBlk w b0 v x L) : HalfAt w v x L := by
  obtain ⟨g, cap, cur, ds, rfl, -, hb, hc, h1, h2, h3, h4, h5, h6⟩ := h.is
  exact ⟨⟨ds, ⟨_, cap, rfl, h1, h2, fun _ => ⟨g, 0, rfl, fun i hi => by rw [Nat.zero_add, hb.cell]; exact hc i hi⟩⟩, h3, h4, h5, h6⟩⟩
theorem HalfBlk.ext {w w' : World} {b0 : Nat} {v : Value} {x : Int} {L : Nat} (h : HalfBlk w b0 v x L) (e : Ext w w') : HalfBlk w' b0 v x L := by
  obtain ⟨g, cap, cur, ds, e1, e2, hb, r⟩ := h.is
  exact ⟨⟨g, cap, cur, ds, e1, e2, hb.ext e, r⟩⟩
/-- It stays while a row of bytes grows. -/
theorem HalfBlk.grown {w w' : World} {b0 base : Nat} {v d : Value} {x : Int} {L n : Nat} {xs : List Value} (h : HalfBlk w b0 v x L) (ho : w.ownsRow base 5 1 d n xs) (hg : w.grownBy w' d.ownBlock) : HalfBlk w' b0 v x L := by
  obtain ⟨g, cap, cur, ds, e1, e2, hb, r⟩ := h.is
  refine ⟨⟨g, cap, cur, ds, e1, e2, hb.grown hg (fun e => ?_), r⟩⟩
  rcases ho.2 with ⟨rfl, -⟩ | ⟨g', cap', cur', rfl, -, hg', -⟩
  · cases e
  · have e' : g = g' := by injection e
    subst e'
    unfold Blk at hb
    rw [hb] at hg'
    injection hg' with hg'
    injection hg' with _ e3 _
    exact absurd e3 (by decide)
theorem HalfAt.form {w : World} {v : Value} {x : Int} {L : Nat} (h : HalfAt w v x L) : ∃ a n c, v = .slice a n c ∧ n ≤ L ∧ 0 ≤ x ∧ (n = 0 → x = 0) ∧ (0 < n → 0 < x) := by
  obtain ⟨ds, ⟨a, cap, rfl, -⟩, h3, h4, h5, h6⟩ := h.is
  have hnn : ∀ l : List Int, Digs B32 l → 0 ≤ val B32 l := fun l hl => by
    induction l with
    | nil => simp [val]
    | cons d l ih =>
      have := hl d (by simp)
      have := ih (fun e he => hl e (by simp [he]))
      rw [val]; unfold B32 at *; omega
  have hpos : ∀ l : List Int, Digs B32 l → (hn : l ≠ []) → l.getLast hn ≠ 0 → 0 < val B32 l := fun l hl hn hz => by
    induction l with
    | nil => exact absurd rfl hn
    | cons d l ih =>
      have := hl d (by simp)
      by_cases hl0 : l = []
      · subst hl0
        simp only [List.getLast_singleton] at hz
        simp [val]; omega
      · rw [List.getLast_cons hl0] at hz
        have := ih (fun e he => hl e (by simp [he])) hl0 hz
        rw [val]; unfold B32 at *; omega
  refine ⟨a, ds.length, cap, rfl, h6, h5 ▸ hnn ds h3, fun h0 => ?_, fun h0 => ?_⟩
  · have := List.eq_nil_of_length_eq_zero h0
    subst this
    exact h5.symm
  · have hne : ds ≠ [] := by rintro rfl; simp at h0
    rw [← h5]
    refine hpos ds h3 hne ?_
    rcases h4 with h4 | h4
    · exact absurd h4 hne
    · rw [List.getLast_eq_getElem]
      rw [List.getD_eq_getElem?_getD, List.getElem?_eq_getElem (by omega)] at h4
      exact h4
end Go.Proofs.YtgokenbojppnhaaDoor
namespace Go.Proofs.YtgokenbojppnhaaDoor
open Go.RowKit
set_option maxHeartbeats 4000000 in
set_option maxRecDepth 100000 in
theorem short_own {m : Value} {x d : Int} {L : Nat} {w : World} (hX : HalfAt w m x L) (hL : L ≤ 2000000) (hd : 0 < d) (hd1 : d < 4294967296) :
    Calls Tryd.prog 62 #[m, .int .u32 d] w fun e w' => ∃ v, e = .returned (.tuple #[v, .int .u32 (x % d)]) ∧ Ext w w' ∧ ((x / d = 0 ∧ ∃ a c, v = .slice a 0 c ∧ c ≤ maxLen) ∨ HalfBlk w' w.heap.size v (x / d) L) := by
  obtain ⟨i0, hi0, hz0, hz1, hz2⟩ := info_parts info32
  obtain ⟨xs, ⟨ax, capx, rfl, hx2⟩, dX, nX, rfl, lX⟩ := hX.is
  have rx' : Row .u32 w (.slice ax xs.length capx) xs := ⟨ax, capx, rfl, hx2⟩
  have RX := Lib.hid rx'
  clear hX rx' hx2 nX
  go_enter Tryd.func62, Tryd.ntmps62
  go_wp2_with (at_make; refine wpList_make_full _ rfl _ _ 104 rfl w.heap.size 107 i0 _ 1 Tryd.underlying104 hi0 hz0 hz1 _ _ _ _ xs.length rfl rfl (by omega) (by omega) (by rw [hz2]; omega) (by unfold maxLen; omega) (Nat.le_refl _) ?_; intro v3 hown0 hgrow0)
  have hownA : v3.ownsRow w.heap.size 107 1 (.slice (some ⟨w.heap.size, 0, none⟩) xs.length xs.length) xs.length ((List.replicate xs.length (0 : Int)).map (Value.int .u32)) := by
    rw [List.map_replicate]; have h := hown0; rw [Nat.mul_one, show (Value.int .u32 0).cells = #[.int .u32 0] from rfl, toList_madeCells_one] at h; exact h
  have xA : Ext w v3 := Ext.grown (Ext.refl _) hgrow0 (fun r hr => by cases hr)
  have HA := Lib.hid hownA
  clear hown0 hgrow0 hownA
  go_loopw [7, 8] (fun rv iv wr => ∃ (k : Nat) (r : Int) (zs : List Int), k ≤ xs.length ∧ iv = .int .i64 ((k : Int) - 1) ∧ rv = .int .u64 r ∧ ShRel xs d k r zs ∧ wr.ownsRow w.heap.size 107 1 (.slice (some ⟨w.heap.size, 0, none⟩) xs.length xs.length) xs.length (zs.map (Value.int .u32)) ∧ Ext w wr) (fun _ iv _ => (intOf iv + 1).toNat)
  case atStart =>
    refine ⟨xs.length, 0, List.replicate xs.length 0, Nat.le_refl _, rfl, rfl, ⟨by simp, fun d hd => ?_, by omega, hd, ?_⟩, HA.out, xA⟩
    · have := List.eq_of_mem_replicate hd; subst this; exact ⟨Int.le_refl _, by decide⟩
    · rw [List.drop_length, List.drop_of_length_le (by simp)]; simp [val]
  case round =>
    obtain ⟨k, r, zs, hk, rfl, rfl, hS, hown, hext⟩ := hrel
    rcases Nat.eq_zero_or_pos k with hk0 | hk0
    · subst hk0
      have hs := hS.is
      rw [List.drop_zero, List.drop_zero] at hs
      have r0 := hS.r0
      have r1 := hS.r1
      have e1 : val B32 xs / d = val B32 zs := by rw [hs, Int.add_comm, Int.add_mul_ediv_left _ _ (by omega), Int.ediv_eq_zero_of_lt r0 r1, Int.zero_add]
      have e2 : val B32 xs % d = r := by rw [hs, Int.add_comm, Int.add_mul_emod_self_left, Int.emod_eq_of_lt r0 r1]
      have hzl := hS.len
      have hcells := fun i (hi : i < zs.length) => owns_at hown i (by omega)
      have HD := Lib.hid hS.digs
      have HLn : Hid (zs.length ≤ L) := Lib.hid (by rw [hS.len]; exact lX)
      have E1 := Lib.hid e1
      have E2 := Lib.hid e2
      have HW := Lib.hid hown
      have CW := cut_walk w.heap.size 0 xs.length zs wr (by omega) (by unfold maxLen; omega) (fun i hi => by rw [Nat.zero_add]; exact hcells i hi)
      rw [hzl] at CW
      have CWH := Lib.hid CW
      have HZ := Lib.hid hzl
      clear hS hs e1 e2 hown hcells CW hzl
      go_wp2_with fail
      refine (CWH.out).mono ?_
      rintro e w' ⟨n3, hcut, rfl, rfl⟩
      have H : Hid ((val B32 xs / d = 0 ∧ ∃ a c, Value.slice (some ⟨w.heap.size, 0, none⟩) n3 xs.length = .slice a 0 c ∧ c ≤ maxLen) ∨ HalfBlk wr w.heap.size (.slice (some ⟨w.heap.size, 0, none⟩) n3 xs.length) (val B32 xs / d) L) := Lib.hid (by
        have hz := HZ.out
        have hlt : (zs.take n3).length = n3 := by rw [List.length_take]; have := hcut.le; omega
        by_cases hn0 : n3 = 0
        · left
          subst hn0
          refine ⟨?_, _, _, rfl, by unfold maxLen; omega⟩
          rw [E1.out, ← hcut.val, List.take_zero]; rfl
        · right
          rcases HW.out.2 with ⟨h0, -⟩ | ⟨g', cap', cur, h0, -, hg, -⟩
          · cases h0
          · injection h0 with h0
            injection h0 with h0
            injection h0 with h0
            subst h0
            have hb : Blk wr w.heap.size 107 cur := hg
            refine ⟨⟨w.heap.size, xs.length, cur, zs.take n3, by rw [hlt], Nat.le_refl _, hb, fun i hi => ?_, by rw [hlt]; have := hcut.le; omega, by unfold maxLen; omega, HD.out.take _, hcut.neat, by rw [hcut.val, E1.out], by rw [hlt]; have := HLn.out; have := hcut.le; omega⟩⟩
            have h1 := owns_at HW.out i (by rw [hlt] at hi; have := hcut.le; omega)
            rw [hb.cell] at h1
            rw [h1, getD_take _ _ _ (by rw [hlt] at hi; exact hi)])
      clear hcut CWH HW
      go_wp2
      go_ret2
      exact ⟨_, by rw [E2.out]; rfl, hext, H.out⟩
    · obtain ⟨ST, q0, q1⟩ := hS.step (j := k - 1) (by omega) hk dX hd (by omega)
      have HST := Lib.hid ST
      obtain ⟨bx, ox, rfl, cx1⟩ := RX.out.cellAt (k - 1) (by omega)
      have cx := hext.cell cx1
      have r0 := hS.r0
      have r1 := hS.r1
      obtain ⟨x0, x1⟩ := getD_bd dX (k - 1)
      have en : ((k - 1 : Nat) : Int) = (k : Int) - 1 := by omega
      have nx : (k : Int) - 1 < (xs.length : Int) := by omega
      have cz := owns_at hown (k - 1) (by omega)
      have fz := hown.frozenAt (k - 1)
      have HW := Lib.hid hown
      have ho := or_lo r (xs.getD (k - 1) 0) r0 (by omega) x0 x1
      have hr1 : r < 4294967296 := by omega
      clear cx1 hS hown ST
      generalize xs.getD (k - 1) 0 = xd at *
      generalize zs.getD (k - 1) 0 = zd at *
      have ht0 : 0 ≤ r * 4294967296 + xd := by omega
      have ht1 : r * 4294967296 + xd < 18446744073709551616 := by omega
      generalize r * 4294967296 + xd = t at *
      have hq : t.tdiv d = t / d := Int.tdiv_eq_ediv_of_nonneg ht0
      have hm : t.tmod d = t % d := Int.tmod_eq_emod_of_nonneg ht0
      have m0 : 0 ≤ t % d := Int.emod_nonneg _ (by omega)
      have m1 : t % d < d := Int.emod_lt_of_pos _ hd
      have hdn : d ≠ 0 := by omega
      go_wp2_with fail
      exact ⟨⟨k - 1, _, _, by omega, by rw [en], rfl, HST.out, own_set HW.out _ _, (by repeat (first | with_reducible exact Ext.refl _ | with_reducible apply Ext.drew | with_reducible apply Ext.drewN | with_reducible apply Ext.alloc | ((with_reducible refine Ext.setCell ?_ ?_ _); rotate_left; focus (first | (simp; done) | (simp; omega) | omega)) | with_reducible refine Ext.tr ?_ x1 | with_reducible refine Ext.tr ?_ x2 | with_reducible refine Ext.tr ?_ x5 | with_reducible refine Ext.tr ?_ xa | with_reducible refine Ext.tr ?_ xc | with_reducible refine Ext.tr ?_ xd | with_reducible refine Ext.tr ?_ hx | with_reducible refine Ext.tr ?_ hext | with_reducible assumption))⟩, by simp [intOf]; omega⟩
theorem own_shape' {W : World} {base : Nat} {e : TypeId} {size : Nat} {v : Value} {k : Nat} {xs : List Value} (h : W.ownsRow base e size v k xs) (hk : 0 < k) : ∃ g cap, v = .slice (some ⟨g, 0, none⟩) k cap ∧ base ≤ g ∧ g < W.heap.size := by
  rcases h.2 with ⟨_, h0⟩ | ⟨g, cap, cur, rfl, hb, hg, _⟩
  · omega
  · exact ⟨g, cap, rfl, hb, (Array.getElem?_eq_some_iff.1 hg).1⟩
theorem own_ext8 {w w' : World} {base : Nat} {e : TypeId} {size : Nat} {v : Value} {n : Nat} {xs : List Value} (h : w.ownsRow base e size v n xs) (x : Ext w w') : w'.ownsRow base e size v n xs :=
  h.kept (row := none) ⟨x.os, x.tape, x.output, x.size, fun k hk _ => x.block k hk⟩ (by cases hv : v.ownBlock <;> simp)
theorem row8_snoc {w : World} {base : Nat} {v : Value} {n : Nat} {zs : List Int} {s : Int} (h : w.ownsRow base 5 1 v (n + 1) (zs.map (Value.int .u8) ++ [.int .u8 s])) :
    w.ownsRow base 5 1 v (n + 1) ((zs ++ [s]).map (Value.int .u8)) := by
  rw [List.map_append]; exact h
theorem q_form {w : World} {b0 : Nat} {q : Value} {Q : Int} {L : Nat} (h : (Q = 0 ∧ ∃ a c, q = .slice a 0 c ∧ c ≤ maxLen) ∨ HalfBlk w b0 q Q L) : ∃ a n c, q = .slice a n c ∧ HalfAt w (.slice a n c) Q L := by
  rcases h with ⟨h0, a, c, rfl, hc⟩ | h
  · exact ⟨a, 0, c, rfl, ⟨⟨[], ⟨a, c, rfl, by simp, hc, fun h => absurd rfl h⟩, fun d hd => absurd hd (by simp), .inl rfl, h0.symm, Nat.zero_le _⟩⟩⟩
  · have h1 := h.at
    obtain ⟨a, n, c, rfl, -⟩ := h1.form
    exact ⟨a, n, c, rfl, h1⟩
theorem div_pow9 {X : Int} {g : Nat} (_h0 : 0 ≤ X) (h : X < 10 ^ (9 * (g + 1))) : X / 1000000000 < 10 ^ (9 * g) := by
  rw [Nat.mul_add, Nat.mul_one, Int.pow_add, show (10 : Int) ^ 9 = 1000000000 by decide] at h
  omega
theorem rev_drop {ds : List Int} {n m : Nat} (hm : m + 1 ≤ n) (hn : n ≤ ds.length) : ((ds.take n).drop m).reverse = ((ds.take n).drop (m + 1)).reverse ++ [ds.getD m 0] := by
  have h : m < (ds.take n).length := by rw [List.length_take]; omega
  rw [List.drop_eq_getElem_cons h, List.reverse_cons, List.getElem_take, List.getD_eq_getElem?_getD, List.getElem?_eq_getElem (by omega)]
  rfl
set_option maxHeartbeats 20000000 in
set_option maxRecDepth 100000 in
theorem NText_any {v : Value} {N : Int} {L G : Nat} {w : World} (hX : NatAt w v N L) (hL : L ≤ 1000000) (hG : N < 10 ^ (9 * G)) (hG2 : G ≤ 1000) :
    Calls Tryd.prog 50 #[v] w fun e w' => e = .returned (.string (ba (Lib.decDigits N.toNat))) ∧ Ext w w' := by
  obtain ⟨i0, hi0, hz0, hz1, hz2⟩ := info_parts infoN8
  have HV := Lib.hid (halves_any hX hL)
  obtain ⟨ds0, ⟨a0, cap0, rfl, -⟩, -⟩ := hX.is
  have SH := Lib.hid (fun (m : Value) (x : Int) (u : World) (h : HalfAt u m x (2 * L)) => short_own h (by omega) (show (0 : Int) < 1000000000 by omega) (by omega))
  clear hX
  go_enter Tryd.func50, Tryd.ntmps50
  go_wp2_with fail
  refine (HV.out).mono ?_
  rintro e v1 ⟨xv, rfl, x1, HX⟩
  obtain ⟨xa, xn, xc, rfl, xl, n0, nz, np⟩ := HX.form
  have HX0 := Lib.hid HX
  clear HV HX
  by_cases hn : xn = 0
  · subst hn
    obtain rfl := nz rfl
    clear SH np nz
    have e0 : ba (Lib.decDigits (Int.toNat 0)) = ⟨#[48]⟩ := by rw [show Int.toNat 0 = 0 from rfl, Lib.decDigits]; rfl
    have E0 := Lib.hid e0
    clear e0
    go_wp2
    go_ret
    exact ⟨by rw [E0.out]; rfl, x1⟩
  · have hp : 0 < N := np (by omega)
    have zn : ((xn : Int) == 0) = false := by simp; omega
    clear nz np
    go_wp2_with fail
    go_loopg [3, 4] G (fun g xs dv wr => ∃ (X : Int) (ds : List Int) (a : Option Addr) (n c : Nat), xs = .slice a n c ∧ HalfAt wr (.slice a n c) X (2 * L) ∧ X < 10 ^ (9 * g) ∧ g ≤ 1000 ∧ N = numD ds + 10 ^ ds.length * X ∧ DecN ds ∧ ds.length + 9 * g = 9 * G ∧ wr.ownsRow w.heap.size 5 1 dv ds.length (ds.map (Value.int .u8)) ∧ Ext w wr)
    case atStart => exact ⟨N, [], xa, xn, xc, rfl, HX0.out, hG, hG2, by simp [numD], fun d hd => absurd hd (by simp), by simp, World.ownsRow_nil _ _ _ _, x1⟩
    case round =>
      obtain ⟨X, ds, a, n, c, rfl, hx, hxg, hg1, hN, hd, hdl, hown, hext⟩ := hrel
      obtain ⟨a', n', c', e, hnl, x0, xz, xp⟩ := hx.form
      obtain ⟨rfl, rfl, rfl⟩ : a = a' ∧ n = n' ∧ c = c' := by injection e with e1 e2 e3; exact ⟨e1, e2, e3⟩
      have HSX := Lib.hid (SH.out _ _ _ hx)
      clear hx e
      by_cases hn0 : n = 0
      · subst hn0
        obtain rfl := xz rfl
        obtain hN' : N = numD ds := by rw [hN]; simp
        have dl : 0 < ds.length := by
          rcases Nat.eq_zero_or_pos ds.length with h | h
          · have := List.eq_nil_of_length_eq_zero h
            subst this
            simp [numD] at hN'; omega
          · exact h
        have hrow := hown.lt
        obtain ⟨gd, cp, rfl, hgb, hgl⟩ := own_shape' hown dl
        have HOW := Lib.hid hown
        have dlm : ds.length ≤ 100000 := by omega
        have HN := Lib.hid hN'
        have HDD := Lib.hid hd
        clear HSX xz xp hN hown SH hN' hd hrow hxg x0
        go_wp2_with fail
        go_loopw [8] (fun m wq => ∃ n : Nat, n ≤ ds.length ∧ m = .int .i64 n ∧ numD (ds.take n) = N ∧ wq = wr) (fun m _ => (intOf m).toNat)
        case atStart => exact ⟨ds.length, Nat.le_refl _, rfl, by rw [List.take_length]; exact HN.out.symm, rfl⟩
        case round =>
          obtain ⟨n, hnl, rfl, hnn, rfl⟩ := hrel
          obtain ⟨m, rfl⟩ : ∃ m, n = m + 1 := by
            cases n with
            | zero => simp [numD] at hnn; omega
            | succ m => exact ⟨m, rfl⟩
          have w1 : IntKind.i64.wrap (((m + 1 : Nat) : Int) - 1) = (m : Int) := by rw [IntKind.wrap_i64]; omega
          have cd := owns_at HOW.out m (by omega)
          have ml : (m : Int) < (ds.length : Int) := by omega
          have HNN := Lib.hid hnn
          clear hnn
          by_cases h48 : ds.getD m 0 = 48
          · have e1 : (ds.getD m 0 == 48) = true := by rw [h48]; rfl
            have HT := Lib.hid (numD_take (n := m) (by omega) h48)
            rw [h48] at cd
            clear h48 e1
            go_wp2_with fail
            exact ⟨⟨m, by omega, rfl, by rw [← HT.out]; exact HNN.out, trivial⟩, by simp [intOf]⟩
          · have e1 : (ds.getD m 0 == 48) = false := by simpa using h48
            have H48 := Lib.hid h48
            have CELLS := Lib.hid (fun i (hi : i < ds.length) => owns_at HOW.out i hi)
            have OUT := Lib.hid (show ba (Lib.decDigits N.toNat) = strOfNums (ds.take (m + 1)).reverse by
              have hne : ds.take (m + 1) ≠ [] := by intro e; have := congrArg List.length e; rw [List.length_take, List.length_nil] at this; omega
              have := dec_rev (HDD.out.take (m + 1)) hne (by rw [last_take (by omega)]; exact H48.out)
              rw [HNN.out] at this
              unfold strOfNums ba
              rw [this])
            obtain ⟨d, hdd⟩ : ∃ d, ds.getD m 0 = d := ⟨_, rfl⟩
            rw [hdd] at cd e1
            clear h48 hdd
            obtain ⟨V, rfl⟩ : ∃ V, V = wr := ⟨_, rfl⟩
            go_wp2_with fail
            go_loopg [9, 10] (m + 1) (fun j bv i wq => j ≤ m + 1 ∧ i = .int .i64 ((j : Int) - 1) ∧ wq.ownsRow V.heap.size 5 1 bv (m + 1 - j) ((((ds.take (m + 1)).drop j).reverse).map (Value.int .u8)) ∧ Ext V wq)
            case atStart => exact ⟨Nat.le_refl _, by simp, by rw [Nat.sub_self, List.drop_of_length_le (by rw [List.length_take]; omega)]; exact World.ownsRow_nil _ _ _ _, Ext.refl _⟩
            case round =>
              obtain ⟨hj, rfl, hown, hx⟩ := hrel
              obtain ⟨j, hjk⟩ : ∃ j, gk = j := ⟨_, rfl⟩
              rw [hjk] at hj hown ⊢
              have HJ := Lib.hid hjk
              clear hjk
              have hrow := hown.lt
              rcases Nat.eq_zero_or_pos j with h0 | h0
              · subst h0
                rw [Nat.sub_zero, List.drop_zero] at hown
                obtain ⟨gb, cb, rfl, -, -⟩ := own_shape' hown (by omega)
                have lr : (ds.take (m + 1)).reverse.length = m + 1 := by rw [List.length_reverse, List.length_take]; omega
                have kc := run_convert_bytes_arg (P := Tryd.prog) wr 106 5 Tryd.underlying106 Tryd.underlying5 gb 0 (m + 1) cb _ lr (fun i hi => by rw [Nat.zero_add]; exact owns_at hown i hi)
                have XX := Lib.hid (hext.tr hx)
                clear hown hrow lr cd
                rw [show ((0 : Nat) : Int) - 1 = -1 from rfl]
                go_wp2
                go_ret
                exact ⟨by rw [OUT.out]; rfl, XX.out⟩
              · obtain ⟨p, rfl⟩ : ∃ p, j = p + 1 := ⟨j - 1, by omega⟩
                have RD := rev_drop (ds := ds) (n := m + 1) (m := p) (by omega) (by omega)
                have cj := hx.cell (CELLS.out p (by omega))
                have zz := hx.size
                have pl : (p : Int) < (ds.length : Int) := by omega
                have w2 : IntKind.i64.wrap (((p + 1 : Nat) : Int) - 1 - 1) = (p : Int) - 1 := by rw [IntKind.wrap_i64]; omega
                have w3 : ((p + 1 : Nat) : Int) - 1 = (p : Int) := by omega
                have hn2 : m + 1 - (p + 1) + 1 ≤ maxLen := by unfold maxLen; omega
                have hn3 : (m + 1 - (p + 1) + 1) * 1 ≤ 140737488355328 := by omega
                rw [w3]
                have e1 : m + 1 - (p + 1) + 1 = m + 1 - p := by omega
                generalize ds.getD p 0 = dp at *
                go_wp2_with (at_builtin; refine wpList_append_own _ rfl _ _ 106 rfl V.heap.size 5 i0 _ 1 1 Tryd.underlying106 hi0 hz0 hz1 hz2 rfl (by decide) _ _ _ rfl (hown.alloc _) ⟨wr.heap.size, 0, none⟩ 1 1 [.int .u8 dp] rfl rfl (news_1 _ _ _) (one_1 _ _) hn2 hn3 (by simp; omega) ?_; intro v' w1 hown1 hgrow _; have X : Ext V w1 := Ext.grown (hx.alloc _) hgrow (fun r hr => (hrow r hr).1))
                have hown2 := row8_snoc hown1
                rw [← RD, e1] at hown2
                clear hown1 hgrow hrow hown
                go_wp2_with fail
                go_roundg p
                case rel => exact ⟨by omega, rfl, hown2, X⟩
                case measure => have := HJ.out; omega
      · have hn1 : (0 : Int) < (n : Int) := by omega
        obtain ⟨g', rfl⟩ : ∃ g', gk = g' + 1 := by
          cases gk with
          | zero => have := xp (by omega); simp at hxg; omega
          | succ g' => exact ⟨g', rfl⟩
        have TR := TxRel.start x0 hd hN
        have QG := div_pow9 x0 hxg
        have q0 : 0 ≤ X / 1000000000 := by omega
        generalize X % 1000000000 = r0 at *
        generalize X / 1000000000 = Q at *
        have HTR := Lib.hid TR
        have HQG := Lib.hid QG
        clear TR QG hxg hN hd xp xz
        go_wp2_with fail
        refine (HSX.out).mono ?_
        rintro e v5 ⟨q, rfl, x5, hq⟩
        have HQ := Lib.hid hq
        have HO := Lib.hid (own_ext8 hown x5)
        have X5 := Lib.hid (hext.tr x5)
        obtain ⟨V5, hV5⟩ : ∃ V5, wr.heap.size = V5 := ⟨_, rfl⟩
        rw [hV5] at HQ
        clear hV5
        clear hq hown HSX
        go_wp2_with fail
        go_loopw [4, 6, 7] (fun dv r k wq => ∃ (kk : Nat) (rr : Int) (es : List Int), k = .int .i64 kk ∧ r = .int .u32 rr ∧ TxRel N Q kk rr es ∧ es.length = ds.length + kk ∧ wq.ownsRow w.heap.size 5 1 dv es.length (es.map (Value.int .u8)) ∧ ((Q = 0 ∧ ∃ a c, q = .slice a 0 c ∧ c ≤ maxLen) ∨ HalfBlk wq V5 q Q (2 * L)) ∧ Ext w wq) (fun _ _ k _ => 9 - (intOf k).toNat)
        case atStart => exact ⟨0, r0, ds, rfl, rfl, HTR.out, by omega, HO.out, HQ.out, X5.out⟩
        case round =>
          obtain ⟨kk, rr, es, rfl, rfl, htr, hel, hown, hq, hx⟩ := hrel
          have hk9 := htr.k9
          have hrow := hown.lt
          by_cases hk : kk < 9
          · have kz : (kk : Int) < 9 := by omega
            have zz := hx.size
            have HS := Lib.hid (htr.step hk)
            have r0 := htr.r0
            have r1 := htr.small
            have hq1 : rr.tdiv 10 = rr / 10 := Int.tdiv_eq_ediv_of_nonneg r0
            have hm1 : rr.tmod 10 = rr % 10 := Int.tmod_eq_emod_of_nonneg r0
            have w1 : IntKind.u32.wrap (48 + rr % 10) = 48 + rr % 10 := by rw [IntKind.wrap_u32]; omega
            have w2 : IntKind.u8.wrap (48 + rr % 10) = 48 + rr % 10 := by rw [IntKind.wrap_u8]; omega
            have m0 : 0 ≤ rr % 10 := by omega
            have m1 : rr % 10 < 10 := by omega
            have q0 : 0 ≤ rr / 10 := by omega
            have q1 : rr / 10 < 1000000000 := by omega
            have hn2 : es.length + 1 ≤ maxLen := by unfold maxLen; omega
            have hn3 : (es.length + 1) * 1 ≤ 140737488355328 := by omega
            have HQ2 := Lib.hid hq
            have HOW := Lib.hid hown
            clear htr hq
            generalize rr % 10 = s at *
            generalize rr / 10 = t at *
            go_wp2_with (at_builtin; refine wpList_append_own _ rfl _ _ 106 rfl w.heap.size 5 i0 _ 1 1 Tryd.underlying106 hi0 hz0 hz1 hz2 rfl (by decide) _ _ _ rfl (hown.alloc _) ⟨wr.heap.size, 0, none⟩ 1 1 [.int .u8 (48 + s)] rfl rfl (news_1 _ _ _) (one_1 _ _) hn2 hn3 (by simp; omega) ?_; intro v' w1 hown1 hgrow _; have X : Ext w w1 := Ext.grown (hx.alloc _) hgrow (fun r hr => (hrow r hr).1))
            have hown2 := row8_snoc hown1
            have HQ3 : (Q = 0 ∧ ∃ a c, q = .slice a 0 c ∧ c ≤ maxLen) ∨ HalfBlk w1 V5 q Q (2 * L) := by
              rcases HQ2.out with h | h
              · exact .inl h
              · exact .inr ((h.ext ((Ext.refl _).alloc _)).grown (hown.alloc _) hgrow)
            clear hown1 hgrow hrow hown HQ2
            go_wp2_with fail
            exact ⟨⟨kk + 1, t, es ++ [48 + s], by go_num, rfl, HS.out, by simp; omega, by simpa using hown2, HQ3, X⟩, by simp [intOf]; omega⟩
          · obtain rfl : kk = 9 := by omega
            have kz : ¬ ((9 : Nat) : Int) < 9 := by omega
            obtain ⟨hN2, hd2⟩ := htr.done
            obtain ⟨qa, qn, qc, rfl, hqh⟩ := q_form hq
            have HN2 := Lib.hid hN2
            have HD2 := Lib.hid hd2
            have HQH := Lib.hid hqh
            have HOW := Lib.hid hown
            clear htr hq hN2 hd2 hqh hown hrow
            go_wp2_with fail
            go_roundg g'
            case rel => exact ⟨Q, es, qa, qn, qc, rfl, HQH.out, HQG.out, by omega, HN2.out, HD2.out, by omega, HOW.out, hx⟩
            case measure => omega
end Go.Proofs.YtgokenbojppnhaaDoor
namespace Go.Proofs.YtgokenbojppnhaaDoor
open Go.RowKit
/-- v's row, if it has one, is not block g. -/
def Off (g : Nat) (v : Value) : Prop := ∀ a n c, v = .slice (some a) n c → 0 < n → a.block ≠ g
theorem NatAt.off {w : World} {v : Value} {x : Int} {L g o : Nat} {u : Value} (h : NatAt w v x L) (hv : Off g v) : NatAt (w.setCell ⟨g, o, none⟩ u) v x L := by
  obtain ⟨ds, ⟨a, cap, rfl, h1, h2, h3⟩, rest⟩ := h.is
  refine ⟨⟨ds, ⟨a, cap, rfl, h1, h2, fun hn => ?_⟩, rest⟩⟩
  obtain ⟨b, o', rfl, hc⟩ := h3 hn
  refine ⟨b, o', rfl, fun i hi => ?_⟩
  rw [cell_set_far _ _ _ _ _ _ (fun e => hv _ _ _ rfl (List.length_pos_iff.2 hn) e.symm)]
  exact hc i hi
theorem New.off {w : World} {v : Value} {g : Nat} (h : New w v) (hg : g < w.heap.size) : Off g v := by
  intro a n c e _
  subst e
  have := h a.block rfl
  omega
end Go.Proofs.YtgokenbojppnhaaDoor
namespace Go.Proofs.YtgokenbojppnhaaDoor
open Go.RowKit
theorem NatAt.form {w : World} {v : Value} {x : Int} {L : Nat} (h : NatAt w v x L) : ∃ a n cap, v = .slice a n cap ∧ n ≤ L ∧ (n = 0 → x = 0) ∧ (0 < n → 0 < x) := by
  obtain ⟨ds, ⟨a, cap, rfl, h1, h2, h3⟩, hd, hn, rfl, hl⟩ := h.is
  refine ⟨a, _, cap, rfl, hl, fun h => ?_, fun h => ?_⟩
  · rw [List.eq_nil_of_length_eq_zero h]; rfl
  · have h6 := val_top (by decide) hd hn (List.length_pos_iff.1 h)
    have h7 : (0 : Int) < B64 ^ (ds.length - 1) := Int.pow_pos (by decide)
    omega
end Go.Proofs.YtgokenbojppnhaaDoor
namespace Go.Proofs.YtgokenbojppnhaaDoor
open Go.RowKit
/-- A whole number of the reference, as a world holds it. -/
structure IntAt (w : World) (v : Value) (x : Int) (L : Nat) : Prop where
  is : ∃ m, v = .agg #[.bool (decide (x < 0)), m] ∧ NatAt w m (mag x) L
theorem IntAt.ext {w w' : World} {v : Value} {x : Int} {L : Nat} (h : IntAt w v x L) (e : Ext w w') : IntAt w' v x L := by
  obtain ⟨m, h1, h2⟩ := h.is; exact ⟨⟨m, h1, h2.ext e⟩⟩
theorem Made_raw (neg : Bool) {m : Value} {n : Int} {L : Nat} {w : World} (h : NatAt w m n L) (u : World) :
    Calls Tryd.prog 51 #[.bool neg, m] u fun e w' => e = .returned (.agg #[.bool (neg && decide (0 < n)), m]) ∧ Ext u w' := by
  obtain ⟨a, k, cap, rfl, hk, z1, z2⟩ := h.form
  clear h
  rcases Nat.eq_zero_or_pos k with hk0 | hk0
  · obtain rfl := z1 hk0
    subst hk0
    clear z1 z2
    cases neg
    all_goals
      go_enter Tryd.func51, Tryd.ntmps51
      go_wp2
      simp [bodyPost, results, Tryd.results51, go_sem]
      exact (by repeat (first | with_reducible exact Ext.refl _ | with_reducible apply Ext.drew | with_reducible apply Ext.drewN | with_reducible apply Ext.alloc | ((with_reducible refine Ext.setCell ?_ ?_ _); rotate_left; focus (first | (simp; done) | (simp; omega) | omega)) | with_reducible refine Ext.tr ?_ x1 | with_reducible refine Ext.tr ?_ x2 | with_reducible refine Ext.tr ?_ x5 | with_reducible refine Ext.tr ?_ xa | with_reducible refine Ext.tr ?_ xc | with_reducible refine Ext.tr ?_ xd | with_reducible refine Ext.tr ?_ hx | with_reducible refine Ext.tr ?_ hext | with_reducible assumption))
  · have hn : decide (0 < n) = true := by simp [z2 hk0]
    have kk : (0 : Int) < (k : Int) := by omega
    rw [hn]
    clear z1 z2 hn
    cases neg
    all_goals
      go_enter Tryd.func51, Tryd.ntmps51
      go_wp2
      simp [bodyPost, results, Tryd.results51, go_sem]
      exact (by repeat (first | with_reducible exact Ext.refl _ | with_reducible apply Ext.drew | with_reducible apply Ext.drewN | with_reducible apply Ext.alloc | ((with_reducible refine Ext.setCell ?_ ?_ _); rotate_left; focus (first | (simp; done) | (simp; omega) | omega)) | with_reducible refine Ext.tr ?_ x1 | with_reducible refine Ext.tr ?_ x2 | with_reducible refine Ext.tr ?_ x5 | with_reducible refine Ext.tr ?_ xa | with_reducible refine Ext.tr ?_ xc | with_reducible refine Ext.tr ?_ xd | with_reducible refine Ext.tr ?_ hx | with_reducible refine Ext.tr ?_ hext | with_reducible assumption))
theorem mag_I64 {x : Int} (h1 : -9223372036854775808 ≤ x) (h2 : x ≤ 9223372036854775807) : 0 ≤ mag x ∧ mag x < 18446744073709551616 := by
  unfold mag; split <;> omega
theorem Size_any (x : Int) (w : World) (h1 : -9223372036854775808 ≤ x) (h2 : x ≤ 9223372036854775807) :
    Calls Tryd.prog 53 #[.int .i64 x] w fun e w' => e = .returned (.int .u64 (mag x)) ∧ w = w' := by
  by_cases h : x < 0
  · have g : mag x = -x := by simp [mag, h]
    rw [g]
    clear g
    go_enter Tryd.func53, Tryd.ntmps53
    go_wp2
    go_ret
    simp [IntKind.wrap_u64]
    omega
  · have g : mag x = x := by simp [mag, h]
    rw [g]
    have h0 : 0 ≤ x := by omega
    clear g
    go_enter Tryd.func53, Tryd.ntmps53
    go_wp2
    go_ret
    simp
/-- A number whose row is none of w's. -/
def NewInt (w : World) (v : Value) : Prop := ∀ s m, v = .agg #[s, m] → New w m
theorem From_new (x : Int) (w : World) (h1 : -9223372036854775808 ≤ x) (h2 : x ≤ 9223372036854775807) :
    Calls Tryd.prog 43 #[.int .i64 x] w fun e w' => ∃ v, e = .returned v ∧ Ext w w' ∧ IntAt w' v x 1 ∧ NewInt w v := by
  obtain ⟨m0, m1⟩ := mag_I64 h1 h2
  have S := Lib.hid (fun u => Size_any x u h1 h2)
  have N := Lib.hid (fun u => NOf_new (mag x) u m0 m1)
  clear m0 m1
  go_enter Tryd.func43, Tryd.ntmps43
  go_wp2_with fail; refine (S.out _).mono ?_; rintro e w' ⟨rfl, rfl⟩
  go_wp2_with fail; refine (N.out _).mono ?_; rintro e v1 ⟨q1, rfl, x1, h1⟩; obtain ⟨c1, f1⟩ := x1.rules; have z1 := x1.size; have k1_0_0 := c1 (w.heap.size) 0 (by first | (simp; done) | (simp; omega) | omega); have q1_0_0 := f1 (w.heap.size) 0 (by first | (simp; done) | (simp; omega) | omega); have k1_0_1 := c1 (w.heap.size) 1 (by first | (simp; done) | (simp; omega) | omega); have q1_0_1 := f1 (w.heap.size) 1 (by first | (simp; done) | (simp; omega) | omega); have z1_0 : w.heap.size < v1.heap.size := (by (try simp at z1); omega); (try simp at z1); clear c1 f1; simp [go_sem, *] at k1_0_0 q1_0_0 k1_0_1 q1_0_1
  obtain ⟨h1, n1⟩ := h1
  have H1 := Lib.hid h1
  have O1 := Lib.hid (n1.off (g := w.heap.size) (by simp))
  have e1 : (decide (x < 0) && decide (0 < mag x)) = decide (x < 0) := by unfold mag; by_cases h : x < 0 <;> simp [h]
  have E1 := Lib.hid e1
  have N1 := Lib.hid n1
  clear n1 e1
  obtain ⟨a, k, cap, rfl, -⟩ := h1.form
  have R := Lib.hid (fun u => Made_raw (decide (x < 0)) H1.out u)
  clear h1
  go_wp2_with fail; refine (R.out _).mono ?_; rintro e v2 ⟨rfl, x2⟩; obtain ⟨c2, f2⟩ := x2.rules; have z2 := x2.size; have k2_0_0 := c2 (w.heap.size) 0 (by first | (simp; done) | (simp; omega) | omega); have q2_0_0 := f2 (w.heap.size) 0 (by first | (simp; done) | (simp; omega) | omega); have k2_0_1 := c2 (w.heap.size) 1 (by first | (simp; done) | (simp; omega) | omega); have q2_0_1 := f2 (w.heap.size) 1 (by first | (simp; done) | (simp; omega) | omega); have z2_0 : w.heap.size < v2.heap.size := (by (try simp at z2); omega); (try simp at z2); clear c2 f2; simp [go_sem, *] at k2_0_0 q2_0_0 k2_0_1 q2_0_1; (try clear k1_0_0); (try clear q1_0_0); (try clear k1_0_1); (try clear q1_0_1)
  go_wp2
  simp [bodyPost, results, Tryd.results43, go_sem, *]
  have W1 : New w (.slice a k cap) := fun b hb => by have := N1.out b hb; simp at this; omega
  refine ⟨(by repeat (first | with_reducible exact Ext.refl _ | with_reducible apply Ext.drew | with_reducible apply Ext.drewN | with_reducible apply Ext.alloc | ((with_reducible refine Ext.setCell ?_ ?_ _); rotate_left; focus (first | (simp; done) | (simp; omega) | omega)) | with_reducible refine Ext.tr ?_ x1 | with_reducible refine Ext.tr ?_ x2 | with_reducible refine Ext.tr ?_ x5 | with_reducible refine Ext.tr ?_ xa | with_reducible refine Ext.tr ?_ xc | with_reducible refine Ext.tr ?_ xd | with_reducible refine Ext.tr ?_ hx | with_reducible refine Ext.tr ?_ hext | with_reducible assumption)), ⟨⟨_, by rw [E1.out], ((H1.out.ext (by repeat (first | with_reducible exact Ext.refl _ | with_reducible apply Ext.drew | with_reducible apply Ext.drewN | with_reducible apply Ext.alloc | ((with_reducible refine Ext.setCell ?_ ?_ _); rotate_left; focus (first | (simp; done) | (simp; omega) | omega)) | with_reducible refine Ext.tr ?_ x1 | with_reducible refine Ext.tr ?_ x2 | with_reducible refine Ext.tr ?_ x5 | with_reducible refine Ext.tr ?_ xa | with_reducible refine Ext.tr ?_ xc | with_reducible refine Ext.tr ?_ xd | with_reducible refine Ext.tr ?_ hx | with_reducible refine Ext.tr ?_ hext | with_reducible assumption))).off O1.out).off O1.out⟩⟩, fun s m e => ?_⟩
  simp at e
  rw [← e.2]; exact W1
theorem From_ref (x : Int) (w : World) (h1 : -9223372036854775808 ≤ x) (h2 : x ≤ 9223372036854775807) :
    Calls Tryd.prog 43 #[.int .i64 x] w fun e w' => ∃ v, e = .returned v ∧ Ext w w' ∧ IntAt w' v x 1 :=
  (From_new x w h1 h2).mono (by rintro e w' ⟨v, a, b, c, -⟩; exact ⟨v, a, b, c⟩)
end Go.Proofs.YtgokenbojppnhaaDoor
namespace Go.Proofs.YtgokenbojppnhaaDoor
open Go.RowKit
end Go.Proofs.YtgokenbojppnhaaDoor
namespace Go.Proofs.YtgokenbojppnhaaDoor
open Go.RowKit
end Go.Proofs.YtgokenbojppnhaaDoor
namespace Go.Proofs.YtgokenbojppnhaaDoor
open Go.RowKit
end Go.Proofs.YtgokenbojppnhaaDoor
namespace Go.Proofs.YtgokenbojppnhaaDoor
open Go.RowKit
set_option maxHeartbeats 2000000 in
theorem Text_pos {v : Value} {x : Int} {L G : Nat} {w : World} (h : IntAt w v x L) (hx : 0 ≤ x) (hL : L ≤ 1000000) (hG : x < 10 ^ (9 * G)) (hG2 : G ≤ 1000) :
    Calls Tryd.prog 42 #[v] w fun e w' => e = .returned (.string (ba (Lib.itoa x))) ∧ Ext w w' := by
  obtain ⟨m, rfl, hm⟩ := h.is
  obtain ⟨a, k, cap, rfl, -⟩ := hm.form
  rw [show mag x = x by rw [mag, if_neg (by omega)]] at hm
  rw [show decide (x < 0) = false by simp; omega, show Lib.itoa x = Lib.decDigits x.toNat by unfold Lib.itoa; rw [if_neg (by omega)]]
  have NT := Lib.hid (fun u (e : Ext w u) => NText_any (hm.ext e) hL hG hG2)
  clear h hm
  go_enter Tryd.func42, Tryd.ntmps42
  go_wp2_with fail
  refine (NT.out _ (by repeat (first | with_reducible exact Ext.refl _ | with_reducible apply Ext.drew | with_reducible apply Ext.drewN | with_reducible apply Ext.alloc | ((with_reducible refine Ext.setCell ?_ ?_ _); rotate_left; focus (first | (simp; done) | (simp; omega) | omega)) | with_reducible refine Ext.tr ?_ x1 | with_reducible refine Ext.tr ?_ x2 | with_reducible refine Ext.tr ?_ x5 | with_reducible refine Ext.tr ?_ xa | with_reducible refine Ext.tr ?_ xc | with_reducible refine Ext.tr ?_ xd | with_reducible refine Ext.tr ?_ hx | with_reducible refine Ext.tr ?_ hext | with_reducible assumption))).mono ?_
  rintro e v1 ⟨rfl, x1⟩
  clear NT
  go_wp2
  go_ret
  exact ⟨rfl, (by repeat (first | with_reducible exact Ext.refl _ | with_reducible apply Ext.drew | with_reducible apply Ext.drewN | with_reducible apply Ext.alloc | ((with_reducible refine Ext.setCell ?_ ?_ _); rotate_left; focus (first | (simp; done) | (simp; omega) | omega)) | with_reducible refine Ext.tr ?_ x1 | with_reducible refine Ext.tr ?_ x2 | with_reducible refine Ext.tr ?_ x5 | with_reducible refine Ext.tr ?_ xa | with_reducible refine Ext.tr ?_ xc | with_reducible refine Ext.tr ?_ xd | with_reducible refine Ext.tr ?_ hx | with_reducible refine Ext.tr ?_ hext | with_reducible assumption))⟩
end Go.Proofs.YtgokenbojppnhaaDoor
namespace Go.Proofs.YtgokenbojppnhaaDoor
open Go.RowKit
end Go.Proofs.YtgokenbojppnhaaDoor
