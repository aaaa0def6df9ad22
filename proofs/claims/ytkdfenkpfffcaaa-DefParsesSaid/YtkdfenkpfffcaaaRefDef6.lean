/- (*ratchetref26.reader).body: what it reads; the reader as a world holds it. -/
import Derived.Test.YtkdfenkpfffcaaaRefDef5
namespace Go.Proofs.Ytkdfenkpfffcaaa
open Go.RowKit
theorem bodyR_at (ls : List Bs) : ∀ (fu deep i count : Nat) (acc : List Lay), i ≤ (bodyR ls fu deep i count acc).2.1 ∧ (count ≤ 64 → (bodyR ls fu deep i count acc).2.2 ≤ 64) ∧ (i ≤ ls.length → (bodyR ls fu deep i count acc).2.1 ≤ ls.length) ∧ count ≤ (bodyR ls fu deep i count acc).2.2
  | 0, _, i, count, _ => by simp [bodyR]
  | fu + 1, deep, i, count, acc => by
    unfold bodyR
    split
    · simp
    · rename_i s hx
      have hi : i < ls.length := (List.getElem?_eq_some_iff.1 hx).1
      split
      · simp
      · rename_i f hf
        split
        · simp
        · rename_i hcd
          have hc : count ≠ 64 := fun e => hcd (.inl e)
          split
          · have a := bodyR_at ls fu (deep + 1) (i + 1) (count + 1) []
            split
            · rename_i i' l' h; rw [h] at a; simp at a ⊢; omega
            · rename_i b' i' l' h
              rw [h] at a
              split
              · rename_i h2
                have hi2 := (List.getElem?_eq_some_iff.1 h2).1
                have := bodyR_at ls fu deep (i' + 1) l' (acc ++ [.mk f b'])
                simp at a ⊢
                omega
              · simp at a ⊢; omega
          · have := bodyR_at ls fu deep (i + 1) (count + 1) (acc ++ [.mk f []])
            omega
/-- The reader. -/
structure ReadR (w : World) (R : Nat) (v : Value) (ls : List Bs) (i count : Nat) : Prop where
  blk : Blk w R 96 #[v, .int .i64 i, .int .i64 count]
  lines : RowV w v (strs ls)
  off : ∀ q, v.ownBlock = some q → q ≠ R
theorem ReadR.ext {w W : World} {R : Nat} {v : Value} {ls : List Bs} {i count : Nat} (h : ReadR w R v ls i count) (x : Ext w W) : ReadR W R v ls i count :=
  ⟨h.blk.ext x, h.lines.ext x, h.off⟩
theorem ReadR.at {w : World} {R : Nat} {v : Value} {ls : List Bs} {i count : Nat} (h : ReadR w R v ls i count) (j : Nat) : ReadR (w.setCell ⟨R, 1, none⟩ (.int .i64 j)) R v ls j count :=
  ⟨h.blk.set_ 1 _, h.lines.gb ((GB.refl _ _).set _ _) h.off, h.off⟩
theorem ReadR.count {w : World} {R : Nat} {v : Value} {ls : List Bs} {i count : Nat} (h : ReadR w R v ls i count) (j : Nat) : ReadR (w.setCell ⟨R, 2, none⟩ (.int .i64 j)) R v ls i j :=
  ⟨h.blk.set_ 2 _, h.lines.gb ((GB.refl _ _).set _ _) h.off, h.off⟩
/-- What body tells, and leaves behind. -/
structure BodyResR (w w' : World) (R : Nat) (v : Value) (ls : List Bs) (e : Nat) (res : Option (List Lay) × Nat × Nat) (lv : Value) (ok : Bool) : Prop where
  gb : GB w w' R
  rd : ReadR w' R v ls res.2.1 res.2.2
  no : res.1 = none → ok = false ∧ lv = .slice none 0 0
  yes : ∀ L, res.1 = some L → ok = true ∧ MyLays (fun b => w.heap.size ≤ b ∧ b < w'.heap.size) w' (e + 1) lv L
def BodyOkR (e deep : Nat) : Prop := ∀ {R : Nat} {v : Value} {ls : List Bs} {i count : Nat} {w : World}, ReadR w R v ls i count → ls.length ≤ 100000 → (∀ x ∈ ls, x.length ≤ 100000) → count ≤ 64 → i ≤ ls.length → ∀ fu, ls.length - i + 1 ≤ fu →
  Calls Try.prog 48 #[.pointer (some ⟨R, 0, none⟩), .int .i64 deep] w fun e' w' => ∃ lv ok, e' = .returned (.tuple #[lv, .bool ok]) ∧ BodyResR w w' R v ls e (bodyR ls fu deep i count []) lv ok
end Go.Proofs.Ytkdfenkpfffcaaa
