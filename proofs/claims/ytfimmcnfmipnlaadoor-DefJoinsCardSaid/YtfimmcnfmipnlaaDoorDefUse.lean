/- Contracts of def.Print, def.Parse, EqDef as the laws of layer 26 use them; a string as bytes. -/
import Derived.Test.YtfimmcnfmipnlaaDoorDefSlim
import Derived.Test.YtfimmcnfmipnlaaDoorDefBackLaw3
import Derived.Test.YtfimmcnfmipnlaaDoorDefOpen
import Derived.Lib.ConvBytes
namespace Go.Proofs.YtfimmcnfmipnlaaDoor
open Go.RowKit
theorem bytes_ext (u : World) (S : ByteArray) : Ext u (Lib.bytesWorld u 5 S) := by
  refine ⟨?_, ?_, ?_, ?_, ?_⟩
  · simp [Lib.bytesWorld, World.freeze, World.alloc, World.drew, -World.alloc_eq, -World.drew_eq]
  · simp [Lib.bytesWorld, World.freeze, World.alloc, World.drew, -World.alloc_eq, -World.drew_eq]
  · simp [Lib.bytesWorld, World.freeze, World.alloc, World.drew, -World.alloc_eq, -World.drew_eq]
  · rw [Lib.bytesWorld_size]; omega
  · exact fun k hk => Lib.bytesWorld_at_old u _ S k hk
theorem bytesW_row (u : World) {l : Bs} (hl : l.length ≤ 100000) {S : ByteArray} (hS : ba l = S) : RowV (Lib.bytesWorld u 5 S) (.slice (some ⟨u.heap.size, 0, none⟩) l.length (grownCap u l.length 0 5)) (bytesV l) := by
  have hsz : S.size = l.length := by rw [← hS, ba_size]
  have hb := bytesV_len l
  refine ⟨_, _, by rw [hb], by rw [hb]; exact grownCap_ge _ _ _ _, grownCap_le_maxLen _ _ _ _ (by unfold maxLen; omega), fun _ => ⟨_, 0, rfl, fun i hi => ?_⟩⟩
  rw [hb] at hi
  rw [Nat.zero_add, Lib.bytesWorld_cell _ _ _ _ (by omega), ← hS]
  simp [bytesV, ba, hi, List.getD]
theorem str_conv (u : World) {l : Bs} {S : ByteArray} (hS : ba l = S) :
    (convert 9 47 (.string S)).run Tryd.prog u = .ok (.slice (some ⟨u.heap.size, 0, none⟩) l.length (grownCap u l.length 0 5)) (Lib.bytesWorld u 5 S) := by
  have hsz : S.size = l.length := by rw [← hS, ba_size]
  have h := Lib.run_convert_string_bytes (P := Tryd.prog) u 9 47 5 S Tryd.underlying9 Tryd.underlying47 Tryd.underlying5
  rw [hsz] at h
  exact h
theorem LaysAt.ups {A : Nat → Prop} {w : World} {n : Nat} {v : Value} {L : List Lay} (h : LaysAt A w n v L) : ∀ m, LaysAt A w (n + m) v L
  | 0 => h
  | m + 1 => (LaysAt.ups h m).up
theorem DefAt.mono {A B : Nat → Prop} {n : Nat} {w : World} {v : Value} {d : DefL} (h : DefAt A n w v d) (hA : ∀ b, A b → B b) (hB : ∀ b, B b → b < w.heap.size) : DefAt B n w v d := by
  obtain ⟨a1, c1, a2, c2, e, h1, h2⟩ := h.is
  exact ⟨⟨a1, c1, a2, c2, e, h1, h2.mono hA⟩, hB⟩
set_option maxHeartbeats 2000000 in
theorem eqDef_at {A B : Nat → Prop} {n m : Nat} {w : World} {u v : Value} {d : DefL} (h1 : DefAt A n w u d) (h2 : DefAt B m w v d) :
    Calls Tryd.prog 13 #[u, v] w fun e w' => e = .returned (.bool true) ∧ Ext w w' := by
  obtain ⟨a1, c1, a3, c3, rfl, o1, m1⟩ := h1.is
  obtain ⟨a2, c2, a4, c4, rfl, o2, m2⟩ := h2.is
  have EN := Lib.hid (fun w' (x : Ext w w') => eqNumbers_any (o1.ext x) (o2.ext x))
  rw [decide_eq_true rfl] at EN
  have EL := Lib.hid (fun w' (x : Ext w w') => eqLayers_any (n + m) _ _ _ _ _ _ ((m1.ext x).ups m) (by have := (m2.ext x).ups n; rwa [Nat.add_comm] at this))
  clear h1 h2 o1 o2 m1 m2
  go_enter Tryd.func13, Tryd.ntmps13
  go_wp2_with fail
  refine (EN.out _ (by repeat (first | with_reducible exact Ext.refl _ | with_reducible apply Ext.drew | with_reducible apply Ext.drewN | with_reducible apply Ext.alloc | ((with_reducible refine Ext.setCell ?_ ?_ _); rotate_left; focus (first | (simp; done) | (simp; omega) | omega)) | with_reducible refine Ext.tr ?_ x1 | with_reducible refine Ext.tr ?_ x2 | with_reducible assumption))).mono ?_
  rintro e w1 ⟨rfl, n1, hw1⟩
  have x1 : Ext w w1 := by rw [hw1]; exact (by repeat (first | with_reducible exact Ext.refl _ | with_reducible apply Ext.drew | with_reducible apply Ext.drewN | with_reducible apply Ext.alloc | ((with_reducible refine Ext.setCell ?_ ?_ _); rotate_left; focus (first | (simp; done) | (simp; omega) | omega)) | with_reducible refine Ext.tr ?_ x1 | with_reducible refine Ext.tr ?_ x2 | with_reducible assumption))
  have B1 := Lib.hid (show Blk w1 w.heap.size 26 #[.slice a1 d.input.length c1, .slice a3 d.layers.length c3, .int .i64 d.loss] by rw [hw1]; exact ((Blk.new w _ _).alloc _).drewN _)
  have B2 := Lib.hid (show Blk w1 (w.heap.size + 1) 26 #[.slice a2 d.input.length c2, .slice a4 d.layers.length c4, .int .i64 d.loss] by
    rw [hw1]
    have h1 := Blk.new (w.alloc (.cells #[.slice a1 d.input.length c1, .slice a3 d.layers.length c3, .int .i64 d.loss] 26)) 26 #[.slice a2 d.input.length c2, .slice a4 d.layers.length c4, .int .i64 d.loss]
    rw [World.size_alloc] at h1
    exact h1.drewN _)
  obtain ⟨k0, k1, k2, zk⟩ := B1.out.three'
  obtain ⟨r0, r1, r2, zr⟩ := B2.out.three'
  clear EN hw1
  go_wp2_with fail
  refine (EL.out _ x1).mono ?_
  rintro e w2 ⟨rfl, x2⟩
  replace k2 := x2.cell k2
  replace r2 := x2.cell r2
  have zz := x2.size
  have E : (d.loss == d.loss) = true := by simp
  clear EL k0 k1 r0 r1 B1 B2
  go_wp2_with fail
  go_ret
  exact ⟨rfl, x1.tr x2⟩
theorem print_good {A : Nat → Prop} {n : Nat} {w : World} {v : Value} {d : DefL} {S : ByteArray} (h : DefAt A n w v d) (hT : TabW w) (hg : goodD d = true) (hS : ba (printS d) = S) :
    Calls Tryd.prog 7 #[v] w fun e w' => e = .returned (.tuple #[.string S, .int .i64 0]) ∧ Ext w w' :=
  (print_any h hT).mono fun e w' hp => by
    obtain ⟨h1, h2⟩ := hp
    rw [hg, if_pos rfl, if_pos rfl, hS] at h1
    exact ⟨h1, h2⟩
theorem print_bad {A : Nat → Prop} {n : Nat} {w : World} {v : Value} {d : DefL} (h : DefAt A n w v d) (hT : TabW w) (hg : goodD d = false) :
    Calls Tryd.prog 7 #[v] w fun e w' => e = .returned (.tuple #[.string ⟨#[]⟩, .int .i64 1]) ∧ Ext w w' :=
  (print_any h hT).mono fun e w' hp => by
    obtain ⟨h1, h2⟩ := hp
    rw [hg] at h1
    exact ⟨h1, h2⟩
theorem parse_good {w : World} {v : Value} {b : Bs} {d : DefL} (h : RowV w v (bytesV b)) (hp : parseS b = (some d, 0)) :
    Calls Tryd.prog 22 #[v] w fun e w' => ∃ a1 c1 a2 c2, e = .returned (.tuple #[.agg #[.slice a1 d.input.length c1, .slice a2 d.layers.length c2, .int .i64 d.loss], .int .i64 0, .int .i64 0]) ∧ Ext w w' ∧ DefAt (fun b => w.heap.size ≤ b ∧ b < w'.heap.size) 5 w' (.agg #[.slice a1 d.input.length c1, .slice a2 d.layers.length c2, .int .i64 d.loss]) d := by
  refine (parseT_all h).mono fun e w' hq => ?_
  rw [hp] at hq
  obtain ⟨dv, h1, h2, h3⟩ := hq
  have h4 := h3.at
  obtain ⟨a1, c1, a2, c2, rfl, -, -⟩ := h4.is
  exact ⟨a1, c1, a2, c2, h1, h2, h4⟩
theorem parse_none {w : World} {v : Value} {b : Bs} (h : RowV w v (bytesV b)) (hp : (parseS b).1 = none) :
    Calls Tryd.prog 22 #[v] w fun e w' => ∃ (k : Nat) (a1 : Option Addr) (c1 : Nat) (a2 : Option Addr) (c2 : Nat), e = .returned (.tuple #[.agg #[.slice a1 0 c1, .slice a2 0 c2, .int .i64 0], .int .i64 k, .int .i64 1]) ∧ Ext w w' := by
  refine (parseT_all h).mono fun e w' hq => ?_
  obtain ⟨dv, h1, h2, h3⟩ := hq
  rw [hp] at h1 h3
  have h4 := h3.at
  obtain ⟨a1, c1, a2, c2, rfl, -, -⟩ := h4.is
  exact ⟨_, a1, c1, a2, c2, h1, h2⟩
end Go.Proofs.YtfimmcnfmipnlaaDoor
