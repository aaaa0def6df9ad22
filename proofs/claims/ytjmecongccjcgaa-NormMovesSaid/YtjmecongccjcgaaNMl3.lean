/- What NormMoves says, of rows normed: the plain law. NormMoves' great condition. NormMoves' innermost loop: a greater word is not lower. NormMoves' loop over a row: the negatives' words are the negatives, and the sum of the squares. NormMoves' loop over the rows. -/
import Derived.Test.YtjmecongccjcgaaNorm14
import Derived.Test.YtjmecongccjcgaaCopyT
import Derived.Test.YtjmecongccjcgaaRef2
import Derived.Test.YtjmecongccjcgaaRTimes
import Derived.Deep.DeepCutAuto
import Derived.BigRegion
import Derived.BigQuiet
namespace Go.Proofs.Ytjmecongccjcgaa
/-- A word added to the first k words. -/
def mvL (ds : List Int) (W : Int) (k : Nat) : List Int := (List.range ds.length).map (fun i => if i < k then wv (ds.getD i 0 + W) else ds.getD i 0)
/-- The first k words' negatives. -/
def ngL (ds : List Int) (k : Nat) : List Int := (List.range ds.length).map (fun i => if i < k then -ds.getD i 0 else ds.getD i 0)
theorem mvL_len (ds : List Int) (W : Int) (k : Nat) : (mvL ds W k).length = ds.length := by simp [mvL]
theorem ngL_len (ds : List Int) (k : Nat) : (ngL ds k).length = ds.length := by simp [ngL]
theorem mvL_at {ds : List Int} {W : Int} {k i : Nat} (h : i < ds.length) : (mvL ds W k).getD i 0 = if i < k then wv (ds.getD i 0 + W) else ds.getD i 0 := by simp [mvL, h]
theorem ngL_at {ds : List Int} {k i : Nat} (h : i < ds.length) : (ngL ds k).getD i 0 = if i < k then -ds.getD i 0 else ds.getD i 0 := by simp [ngL, h]
theorem list_ext' {a b : List Int} (hl : a.length = b.length) (h : ∀ i, i < a.length → a.getD i 0 = b.getD i 0) : a = b := by
  apply List.ext_getElem hl
  intro i h1 h2
  have := h i h1
  rwa [List.getD_eq_getElem?_getD, List.getD_eq_getElem?_getD, List.getElem?_eq_getElem h1, List.getElem?_eq_getElem h2] at this
theorem mvL_zero (ds : List Int) (W : Int) : mvL ds W 0 = ds := list_ext' (mvL_len _ _ _) (fun i hi => by rw [mvL_len] at hi; rw [mvL_at hi, if_neg (by omega)])
theorem ngL_zero (ds : List Int) : ngL ds 0 = ds := list_ext' (ngL_len _ _) (fun i hi => by rw [ngL_len] at hi; rw [ngL_at hi, if_neg (by omega)])
theorem getD_set {l : List Int} {i j : Nat} {x : Int} (h : i < l.length) : (l.set i x).getD j 0 = if j = i then x else l.getD j 0 := by
  rw [List.getD_eq_getElem?_getD, List.getElem?_set]
  by_cases e : i = j
  · subst e; simp [h]
  · rw [if_neg e, if_neg (fun h => e h.symm), List.getD_eq_getElem?_getD]
theorem mvL_set {ds : List Int} {W : Int} {k : Nat} (h : k < ds.length) : (mvL ds W k).set k (wv (ds.getD k 0 + W)) = mvL ds W (k + 1) := by
  refine list_ext' (by simp [mvL]) (fun i hi => ?_)
  rw [List.length_set, mvL_len] at hi
  rw [getD_set (by rw [mvL_len]; exact h), mvL_at hi, mvL_at hi]
  by_cases e : i = k
  · subst e; simp
  · rw [if_neg e]; split <;> (split <;> first | rfl | omega)
theorem ngL_set {ds : List Int} {k : Nat} (h : k < ds.length) : (ngL ds k).set k (-ds.getD k 0) = ngL ds (k + 1) := by
  refine list_ext' (by simp [ngL]) (fun i hi => ?_)
  rw [List.length_set, ngL_len] at hi
  rw [getD_set (by rw [ngL_len]; exact h), ngL_at hi, ngL_at hi]
  by_cases e : i = k
  · subst e; simp
  · rw [if_neg e]; split <;> (split <;> first | rfl | omega)
/-- Are the first k words, a word added, words? -/
def okTo (ds : List Int) (W : Int) (k : Nat) : Bool := (List.range k).all (fun i => gd (ds.getD i 0 + W))
theorem okTo_succ (ds : List Int) (W : Int) (k : Nat) : okTo ds W (k + 1) = (okTo ds W k && gd (ds.getD k 0 + W)) := by simp [okTo, List.range_succ, List.all_append]
theorem okTo_at {ds : List Int} {W : Int} {k : Nat} (h : okTo ds W k = true) {i : Nat} (hi : i < k) : gd (ds.getD i 0 + W) = true := by
  unfold okTo at h
  exact List.all_eq_true.1 h i (List.mem_range.2 hi)
theorem ten_same {xs ds es : List Int} (h : tenB xs ds = true) (hl : es.length = ds.length) (hg : ∀ i, i < es.length → gd (es.getD i 0) = true) : tenB xs es = true := by
  simp only [tenB, Bool.and_eq_true, decide_eq_true_eq] at h ⊢
  exact ⟨⟨h.1.1, by rw [hl]; exact h.1.2⟩, all_ok hg⟩
theorem gd_of_ten {xs ds : List Int} (h : tenB xs ds = true) {i : Nat} (hi : i < ds.length) : gd (ds.getD i 0) = true := by
  simp only [tenB, Bool.and_eq_true, List.all_eq_true] at h
  exact h.2 _ (getD_mem ds i hi)
theorem mv_ten {xs ds : List Int} {W : Int} (h : tenB xs ds = true) (ok : okTo ds W ds.length = true) : tenB xs (mvL ds W ds.length) = true :=
  ten_same h (mvL_len _ _ _) (fun i hi => by rw [mvL_len] at hi; rw [mvL_at hi, if_pos hi, wv_of (okTo_at ok hi)]; exact okTo_at ok hi)
theorem ng_ten {xs ds : List Int} (h : tenB xs ds = true) : tenB xs (ngL ds ds.length) = true :=
  ten_same h (ngL_len _ _) (fun i hi => by rw [ngL_len] at hi; rw [ngL_at hi, if_pos hi, gd_neg]; exact gd_of_ten h hi)
theorem in_row {i n m t l : Nat} (hl : l = m * n) (hi : i < l) (ht : t < n) : i / n * n + t < l := by
  subst hl
  have h1 : i / n < m := Nat.div_lt_of_lt_mul (by rw [Nat.mul_comm]; exact hi)
  have h2 := Nat.mul_le_mul_right n (show i / n + 1 ≤ m by omega)
  rw [Nat.add_mul] at h2
  omega
/-- With a word added to all words rows normed are the same. -/
theorem mv_same {ds zs ys : List Int} {W : Int} {n m : Nat} {eps f : Int} (hm : ds.length = m * n) (n0 : 0 < n) (e0 : 0 < eps) (ok : okTo ds W ds.length = true) (hz : zs.length = ds.length) (hy : ys.length = ds.length) (h1 : NormTo ds n eps f zs ds.length) (h2 : NormTo (mvL ds W ds.length) n eps f ys ds.length) : zs = ys :=
  list_ext' (by omega) (fun i hi => by
    have a := h1 i (by omega)
    have b := h2 i (by omega)
    have hk : i % n < n := Nat.mod_lt _ n0
    refine (a.shift (h := fun t => (mvL ds W ds.length).getD (i / n * n + t) 0) (c := W) (fun t ht => ?_) hk).only b n0 e0
    have := in_row hm (show i < ds.length by omega) ht
    rw [mvL_at this, if_pos this, wv_of (okTo_at ok this)])
/-- Of the negatives they are the negatives. -/
theorem ng_same {ds zs ys : List Int} {n m : Nat} {eps f : Int} (hm : ds.length = m * n) (n0 : 0 < n) (e0 : 0 < eps) (h1 : NormTo ds n eps f zs ds.length) (h2 : NormTo (ngL ds ds.length) n eps f ys ds.length) {i : Nat} (hi : i < ds.length) : ys.getD i 0 = -zs.getD i 0 := by
  have a := h1 i (by omega)
  have b := h2 i (by omega)
  have hk : i % n < n := Nat.mod_lt _ n0
  refine b.only (a.neg (h := fun t => (ngL ds ds.length).getD (i / n * n + t) 0) (fun t ht => ?_) hk n0 e0) n0 e0
  have := in_row hm hi ht
  rw [ngL_at this, if_pos this]
/-- A word of the row at A. -/
theorem norm_row {ds zs : List Int} {n j A k : Nat} {eps f : Int} (hA : j * n = A) (hk : k < n) (hA2 : A + n ≤ ds.length) (h1 : NormTo ds n eps f zs ds.length) : IsNorm (fun t => ds.getD (A + t) 0) n eps f k (zs.getD (A + k) 0) := by
  have a := h1 (A + k) (by omega)
  have e1 : (A + k) / n = j := by rw [← hA, Nat.add_comm, Nat.add_mul_div_right _ _ (by omega), Nat.div_eq_of_lt hk]; omega
  have e2 : (A + k) % n = k := by rw [← hA, Nat.add_comm, Nat.add_mul_mod_self_right, Nat.mod_eq_of_lt hk]
  rw [e1, e2, hA] at a
  exact a
theorem row_squares {ds zs : List Int} {n j A : Nat} {eps f : Int} (hA : j * n = A) (n0 : 0 < n) (e0 : 0 < eps) (hA2 : A + n ≤ ds.length) (h1 : NormTo ds n eps f zs ds.length) : sumN (fun k => sq1 (zs.getD (A + k) 0)) n ≤ n * (4 * p2 (2 * f)) :=
  norm_squares (z := fun k => zs.getD (A + k) 0) (fun _ hk => norm_row hA hk hA2 h1) n0 e0
theorem last_nat' {xs ds : List Int} (h1 : tenB xs ds = true) (h5 : 0 < xs.length) : ∃ n : Nat, xs.getD (xs.length - 1) 0 = n := by
  simp only [tenB, Bool.and_eq_true] at h1
  exact Int.eq_ofNat_of_zero_le (by have := (shp_dims h1.1.1).1.at (xs.length - 1) (by omega); omega)
theorem sq1_nn (z : Int) : 0 ≤ sq1 z := by unfold sq1; split; exact sq_nn _; omega
end Go.Proofs.Ytjmecongccjcgaa
namespace Go.Proofs.Ytjmecongccjcgaa
open Go.RowKit
attribute [local go_sem ↓] Go.wp_at_zero Go.wp_at_succ
/-- The loops that lie in a code, none of them within another. -/
def loopsIn : Code → List Code
  | .loop c => [c]
  | .seq a b => loopsIn a ++ loopsIn b
  | .block _ c => loopsIn c
  | .scope c => loopsIn c
  | .cond _ a b => loopsIn a ++ loopsIn b
  | _ => []
/-- A region, by its number. -/
def regionAt (n : Nat) : Code → Option Code
  | .region i ops d => if i = n then some (.region i ops d) else none
  | .loop c => regionAt n c
  | .seq a b => match regionAt n a with
    | some c => some c
    | none => regionAt n b
  | .block _ c => regionAt n c
  | .scope c => regionAt n c
  | .cond _ a b => match regionAt n a with
    | some c => some c
    | none => regionAt n b
  | _ => none
noncomputable def nmBody1 : Code := ((Try.f4.body.map loopsIn).getD []).getD 0 .skip
noncomputable def nmBody3 : Code := (loopsIn nmBody1).getD 1 .skip
noncomputable def nmBody4 : Code := (loopsIn nmBody3).getD 0 .skip
noncomputable def nmBody5 : Code := (loopsIn nmBody4).getD 0 .skip
noncomputable def nmCond : Code := (regionAt 42 nmBody5).getD .skip
set_option maxHeartbeats 100000000 in
set_option maxRecDepth 1000000 in
theorem nm_cond_lt (V : World) (pp pa g2 bd od cd len I J : Nat) (x z dm dk : Int) (hI : (I : Int) < (len : Int)) (hJ : (J : Int) < (len : Int))
    (kp : V.cell? ⟨pp, 1, none⟩ = some (.slice (some ⟨bd, od, none⟩) len cd)) (ka : V.cell? ⟨pa, 1, none⟩ = some (.slice (some ⟨g2, 0, none⟩) len len))
    (d1 : V.cell? ⟨bd, od + J, none⟩ = some (.int .i64 dm)) (d2 : V.cell? ⟨bd, od + I, none⟩ = some (.int .i64 dk)) (kx : V.cell? ⟨g2, J, none⟩ = some (.int .i64 x)) (kz : V.cell? ⟨g2, I, none⟩ = some (.int .i64 z))
    (t1 : decide (dm < dk) = true) (t2 : decide (z < x) = false) (t3 : (dm == dk) = false) (t4 : decide (dk < dm) = false) (Q0 : Exit → Act → World → Prop) (c0 c1 c2 c3 c5 c6 c8 c9 c10 c11 c12 c13 c14 c15 c16 c17 c18 c19 c20 c23 c24 c25 c26 c27 c28 c29 c30 c31 c32 c33 c34 c35 c36 c37 c38 c39 c40 c41 c42 c43 c44 c45 c46 c47 c48 c49 c50 c51 c52 c53 c54 c55 c56 c57 c58 c59 c60 c61 c62 c63 c64 c65 c66 c67 c68 c69 c70 c71 c72 c73 c74 c75 c76 c77 c78 c79 c80 c81 c82 c83 c84 c85 c86 c87 c88 c89 c90 c91 c92 c93 c94 c95 c96 c97 c98 c99 c100 c101 c102 c103 c104 c105 c106 c107 c108 c109 c110 c111 c112 c113 c114 c115 c116 c117 c118 c119 c120 c121 c122 c123 c124 c125 c126 c127 c128 c129 c130 c131 c132 c133 c134 c135 c136 c137 c138 c139 c140 c141 c142 c143 c144 c145 c146 c147 c148 c149 c150 c151 c152 c153 c154 c155 c156 c157 c158 c159 c160 c161 c162 c163 c164 c165 c166 c167 c168 c169 c170 c171 c172 c173 c174 c175 c176 c177 c178 c179 c180 c181 c182 c183 c184 c185 c186 c187 c188 c189 c190 c191 c192 c193 c194 c195 c196 c197 c198 c199 c200 c201 c202 c203 c204 c205 c206 c207 c208 c209 c210 c211 c212 c213 c214 c215 c216 c217 c218 c219 c220 c221 c222 c223 c224 c225 c226 c227 c228 c229 c230 c231 c232 c233 c234 c235 c236 c237 c238 c239 c240 c241 c242 c243 c244 c245 c246 c247 c248 c249 c250 c251 c252 c253 c254 c255 c256 c257 c258 c259 c260 c261 c262 c263 c264 c265 c266 c267 c268 c269 c270 c271 c272 c273 c274 c275 c276 c277 c278 c279 c280 c281 c282 c283 c284 c285 c286 c287 c288 c289 c290 c291 c292 c293 c294 c295 c296 c297 c298 c299 c300 c301 c302 c303 c304 c305 c306 c307 c308 c309 c310 c311 c312 c313 c314 c315 c316 c317 c318 c319 c320 c321 c322 c323 c324 c325 : Value)
    (hQ : ∀ (u215 u216 u217 u218 u219 u220 u221 u222 u223 u224 u225 u226 u227 u228 u229 u230 u231 u232 u233 u234 u235 u236 u237 u238 u239 u240 u241 u242 u243 u244 u245 u246 u247 u248 u249 u250 u251 u252 u253 u254 u255 u256 u257 u258 u259 u260 u261 u262 u263 u264 u265 u266 u267 u268 u269 u270 u271 u272 u273 u274 u275 u276 u277 u278 u279 u280 u281 u282 u283 u284 u285 u286 u287 u288 u289 u290 u291 u292 u293 u294 u295 : Value) (w' : World), Ext V w' → Q0 .normal ⟨(c0 :: c1 :: c2 :: c3 :: .pointer (some ⟨pp, 0, none⟩) :: c5 :: c6 :: .pointer (some ⟨pa, 0, none⟩) :: c8 :: c9 :: c10 :: c11 :: c12 :: c13 :: c14 :: c15 :: c16 :: c17 :: c18 :: c19 :: c20 :: .int .i64 (I : Int) :: .int .i64 (J : Int) :: c23 :: c24 :: c25 :: c26 :: c27 :: c28 :: c29 :: c30 :: c31 :: c32 :: c33 :: c34 :: c35 :: c36 :: c37 :: c38 :: c39 :: c40 :: c41 :: c42 :: c43 :: c44 :: c45 :: c46 :: c47 :: c48 :: c49 :: c50 :: c51 :: c52 :: c53 :: c54 :: c55 :: c56 :: c57 :: c58 :: c59 :: c60 :: c61 :: c62 :: c63 :: c64 :: c65 :: c66 :: c67 :: c68 :: c69 :: c70 :: c71 :: c72 :: c73 :: c74 :: c75 :: c76 :: c77 :: c78 :: c79 :: c80 :: c81 :: c82 :: c83 :: c84 :: c85 :: c86 :: c87 :: c88 :: c89 :: c90 :: c91 :: c92 :: c93 :: c94 :: c95 :: c96 :: c97 :: c98 :: c99 :: c100 :: c101 :: c102 :: c103 :: c104 :: c105 :: c106 :: c107 :: c108 :: c109 :: c110 :: c111 :: c112 :: c113 :: c114 :: c115 :: c116 :: c117 :: c118 :: c119 :: c120 :: c121 :: c122 :: c123 :: c124 :: c125 :: c126 :: c127 :: c128 :: c129 :: c130 :: c131 :: c132 :: c133 :: c134 :: c135 :: c136 :: c137 :: c138 :: c139 :: c140 :: c141 :: c142 :: c143 :: c144 :: c145 :: c146 :: c147 :: c148 :: c149 :: c150 :: c151 :: c152 :: c153 :: c154 :: c155 :: c156 :: c157 :: c158 :: c159 :: c160 :: c161 :: c162 :: c163 :: c164 :: c165 :: c166 :: c167 :: c168 :: c169 :: c170 :: c171 :: c172 :: c173 :: c174 :: c175 :: c176 :: c177 :: c178 :: c179 :: c180 :: c181 :: c182 :: c183 :: c184 :: c185 :: c186 :: c187 :: c188 :: c189 :: c190 :: c191 :: c192 :: c193 :: c194 :: c195 :: c196 :: c197 :: c198 :: c199 :: c200 :: c201 :: c202 :: c203 :: c204 :: c205 :: c206 :: c207 :: c208 :: c209 :: c210 :: c211 :: c212 :: c213 :: c214 :: u215 :: u216 :: u217 :: u218 :: u219 :: u220 :: u221 :: u222 :: u223 :: u224 :: u225 :: u226 :: u227 :: u228 :: u229 :: u230 :: u231 :: u232 :: u233 :: u234 :: u235 :: u236 :: u237 :: u238 :: u239 :: u240 :: u241 :: u242 :: u243 :: u244 :: u245 :: u246 :: u247 :: u248 :: u249 :: u250 :: u251 :: u252 :: u253 :: u254 :: u255 :: u256 :: u257 :: u258 :: u259 :: u260 :: u261 :: u262 :: u263 :: u264 :: u265 :: u266 :: u267 :: u268 :: u269 :: u270 :: u271 :: u272 :: u273 :: u274 :: u275 :: u276 :: u277 :: u278 :: u279 :: u280 :: u281 :: u282 :: u283 :: u284 :: u285 :: u286 :: u287 :: u288 :: u289 :: u290 :: u291 :: u292 :: u293 :: u294 :: u295 :: .bool false :: c297 :: c298 :: c299 :: c300 :: c301 :: c302 :: c303 :: c304 :: c305 :: c306 :: c307 :: c308 :: c309 :: c310 :: c311 :: c312 :: c313 :: c314 :: c315 :: c316 :: c317 :: c318 :: c319 :: c320 :: c321 :: c322 :: c323 :: c324 :: c325 :: []).toArray, []⟩ w') :
    Code.wp Try.prog nmCond Q0 ⟨(c0 :: c1 :: c2 :: c3 :: .pointer (some ⟨pp, 0, none⟩) :: c5 :: c6 :: .pointer (some ⟨pa, 0, none⟩) :: c8 :: c9 :: c10 :: c11 :: c12 :: c13 :: c14 :: c15 :: c16 :: c17 :: c18 :: c19 :: c20 :: .int .i64 (I : Int) :: .int .i64 (J : Int) :: c23 :: c24 :: c25 :: c26 :: c27 :: c28 :: c29 :: c30 :: c31 :: c32 :: c33 :: c34 :: c35 :: c36 :: c37 :: c38 :: c39 :: c40 :: c41 :: c42 :: c43 :: c44 :: c45 :: c46 :: c47 :: c48 :: c49 :: c50 :: c51 :: c52 :: c53 :: c54 :: c55 :: c56 :: c57 :: c58 :: c59 :: c60 :: c61 :: c62 :: c63 :: c64 :: c65 :: c66 :: c67 :: c68 :: c69 :: c70 :: c71 :: c72 :: c73 :: c74 :: c75 :: c76 :: c77 :: c78 :: c79 :: c80 :: c81 :: c82 :: c83 :: c84 :: c85 :: c86 :: c87 :: c88 :: c89 :: c90 :: c91 :: c92 :: c93 :: c94 :: c95 :: c96 :: c97 :: c98 :: c99 :: c100 :: c101 :: c102 :: c103 :: c104 :: c105 :: c106 :: c107 :: c108 :: c109 :: c110 :: c111 :: c112 :: c113 :: c114 :: c115 :: c116 :: c117 :: c118 :: c119 :: c120 :: c121 :: c122 :: c123 :: c124 :: c125 :: c126 :: c127 :: c128 :: c129 :: c130 :: c131 :: c132 :: c133 :: c134 :: c135 :: c136 :: c137 :: c138 :: c139 :: c140 :: c141 :: c142 :: c143 :: c144 :: c145 :: c146 :: c147 :: c148 :: c149 :: c150 :: c151 :: c152 :: c153 :: c154 :: c155 :: c156 :: c157 :: c158 :: c159 :: c160 :: c161 :: c162 :: c163 :: c164 :: c165 :: c166 :: c167 :: c168 :: c169 :: c170 :: c171 :: c172 :: c173 :: c174 :: c175 :: c176 :: c177 :: c178 :: c179 :: c180 :: c181 :: c182 :: c183 :: c184 :: c185 :: c186 :: c187 :: c188 :: c189 :: c190 :: c191 :: c192 :: c193 :: c194 :: c195 :: c196 :: c197 :: c198 :: c199 :: c200 :: c201 :: c202 :: c203 :: c204 :: c205 :: c206 :: c207 :: c208 :: c209 :: c210 :: c211 :: c212 :: c213 :: c214 :: c215 :: c216 :: c217 :: c218 :: c219 :: c220 :: c221 :: c222 :: c223 :: c224 :: c225 :: c226 :: c227 :: c228 :: c229 :: c230 :: c231 :: c232 :: c233 :: c234 :: c235 :: c236 :: c237 :: c238 :: c239 :: c240 :: c241 :: c242 :: c243 :: c244 :: c245 :: c246 :: c247 :: c248 :: c249 :: c250 :: c251 :: c252 :: c253 :: c254 :: c255 :: c256 :: c257 :: c258 :: c259 :: c260 :: c261 :: c262 :: c263 :: c264 :: c265 :: c266 :: c267 :: c268 :: c269 :: c270 :: c271 :: c272 :: c273 :: c274 :: c275 :: c276 :: c277 :: c278 :: c279 :: c280 :: c281 :: c282 :: c283 :: c284 :: c285 :: c286 :: c287 :: c288 :: c289 :: c290 :: c291 :: c292 :: c293 :: c294 :: c295 :: c296 :: c297 :: c298 :: c299 :: c300 :: c301 :: c302 :: c303 :: c304 :: c305 :: c306 :: c307 :: c308 :: c309 :: c310 :: c311 :: c312 :: c313 :: c314 :: c315 :: c316 :: c317 :: c318 :: c319 :: c320 :: c321 :: c322 :: c323 :: c324 :: c325 :: []).toArray, []⟩ V := by
  have HQ := Lib.hid hQ
  clear hQ
  conv => arg 2; whnf
  simp only [List.append_eq, List.cons_append, List.nil_append]
  go_quiet (fail)
  (try intros)
  exact HQ.out _ _ _ _ _ _ _ _ _ _ _ _ _ _ _ _ _ _ _ _ _ _ _ _ _ _ _ _ _ _ _ _ _ _ _ _ _ _ _ _ _ _ _ _ _ _ _ _ _ _ _ _ _ _ _ _ _ _ _ _ _ _ _ _ _ _ _ _ _ _ _ _ _ _ _ _ _ _ _ _ _ _ (by repeat (first | with_reducible exact Ext.refl _ | with_reducible apply Ext.drew | with_reducible apply Ext.drewN | with_reducible apply Ext.alloc | ((with_reducible refine Ext.setCell ?_ ?_ _); rotate_left; focus (first | (simp; done) | (simp; omega) | omega)) | with_reducible refine Ext.tr ?_ x1 | with_reducible refine Ext.tr ?_ x2 | with_reducible refine Ext.tr ?_ x3 | with_reducible refine Ext.tr ?_ x6 | with_reducible refine Ext.tr ?_ x7 | with_reducible refine Ext.tr ?_ x8 | with_reducible refine Ext.tr ?_ hx | with_reducible assumption))
set_option maxHeartbeats 100000000 in
set_option maxRecDepth 1000000 in
theorem nm_cond_gt (V : World) (pp pa g2 bd od cd len I J : Nat) (x z dm dk : Int) (hI : (I : Int) < (len : Int)) (hJ : (J : Int) < (len : Int))
    (kp : V.cell? ⟨pp, 1, none⟩ = some (.slice (some ⟨bd, od, none⟩) len cd)) (ka : V.cell? ⟨pa, 1, none⟩ = some (.slice (some ⟨g2, 0, none⟩) len len))
    (d1 : V.cell? ⟨bd, od + J, none⟩ = some (.int .i64 dm)) (d2 : V.cell? ⟨bd, od + I, none⟩ = some (.int .i64 dk)) (kx : V.cell? ⟨g2, J, none⟩ = some (.int .i64 x)) (kz : V.cell? ⟨g2, I, none⟩ = some (.int .i64 z))
    (t1 : decide (dm < dk) = false) (t2 : decide (x < z) = false) (t3 : (dm == dk) = false) (t4 : decide (dk < dm) = true) (Q0 : Exit → Act → World → Prop) (c0 c1 c2 c3 c5 c6 c8 c9 c10 c11 c12 c13 c14 c15 c16 c17 c18 c19 c20 c23 c24 c25 c26 c27 c28 c29 c30 c31 c32 c33 c34 c35 c36 c37 c38 c39 c40 c41 c42 c43 c44 c45 c46 c47 c48 c49 c50 c51 c52 c53 c54 c55 c56 c57 c58 c59 c60 c61 c62 c63 c64 c65 c66 c67 c68 c69 c70 c71 c72 c73 c74 c75 c76 c77 c78 c79 c80 c81 c82 c83 c84 c85 c86 c87 c88 c89 c90 c91 c92 c93 c94 c95 c96 c97 c98 c99 c100 c101 c102 c103 c104 c105 c106 c107 c108 c109 c110 c111 c112 c113 c114 c115 c116 c117 c118 c119 c120 c121 c122 c123 c124 c125 c126 c127 c128 c129 c130 c131 c132 c133 c134 c135 c136 c137 c138 c139 c140 c141 c142 c143 c144 c145 c146 c147 c148 c149 c150 c151 c152 c153 c154 c155 c156 c157 c158 c159 c160 c161 c162 c163 c164 c165 c166 c167 c168 c169 c170 c171 c172 c173 c174 c175 c176 c177 c178 c179 c180 c181 c182 c183 c184 c185 c186 c187 c188 c189 c190 c191 c192 c193 c194 c195 c196 c197 c198 c199 c200 c201 c202 c203 c204 c205 c206 c207 c208 c209 c210 c211 c212 c213 c214 c215 c216 c217 c218 c219 c220 c221 c222 c223 c224 c225 c226 c227 c228 c229 c230 c231 c232 c233 c234 c235 c236 c237 c238 c239 c240 c241 c242 c243 c244 c245 c246 c247 c248 c249 c250 c251 c252 c253 c254 c255 c256 c257 c258 c259 c260 c261 c262 c263 c264 c265 c266 c267 c268 c269 c270 c271 c272 c273 c274 c275 c276 c277 c278 c279 c280 c281 c282 c283 c284 c285 c286 c287 c288 c289 c290 c291 c292 c293 c294 c295 c296 c297 c298 c299 c300 c301 c302 c303 c304 c305 c306 c307 c308 c309 c310 c311 c312 c313 c314 c315 c316 c317 c318 c319 c320 c321 c322 c323 c324 c325 : Value)
    (hQ : ∀ (u215 u216 u217 u218 u219 u220 u221 u222 u223 u224 u225 u226 u227 u228 u229 u230 u231 u232 u233 u234 u235 u236 u237 u238 u239 u240 u241 u242 u243 u244 u245 u246 u247 u248 u249 u250 u251 u252 u253 u254 u255 u256 u257 u258 u259 u260 u261 u262 u263 u264 u265 u266 u267 u268 u269 u270 u271 u272 u273 u274 u275 u276 u277 u278 u279 u280 u281 u282 u283 u284 u285 u286 u287 u288 u289 u290 u291 u292 u293 u294 u295 : Value) (w' : World), Ext V w' → Q0 .normal ⟨(c0 :: c1 :: c2 :: c3 :: .pointer (some ⟨pp, 0, none⟩) :: c5 :: c6 :: .pointer (some ⟨pa, 0, none⟩) :: c8 :: c9 :: c10 :: c11 :: c12 :: c13 :: c14 :: c15 :: c16 :: c17 :: c18 :: c19 :: c20 :: .int .i64 (I : Int) :: .int .i64 (J : Int) :: c23 :: c24 :: c25 :: c26 :: c27 :: c28 :: c29 :: c30 :: c31 :: c32 :: c33 :: c34 :: c35 :: c36 :: c37 :: c38 :: c39 :: c40 :: c41 :: c42 :: c43 :: c44 :: c45 :: c46 :: c47 :: c48 :: c49 :: c50 :: c51 :: c52 :: c53 :: c54 :: c55 :: c56 :: c57 :: c58 :: c59 :: c60 :: c61 :: c62 :: c63 :: c64 :: c65 :: c66 :: c67 :: c68 :: c69 :: c70 :: c71 :: c72 :: c73 :: c74 :: c75 :: c76 :: c77 :: c78 :: c79 :: c80 :: c81 :: c82 :: c83 :: c84 :: c85 :: c86 :: c87 :: c88 :: c89 :: c90 :: c91 :: c92 :: c93 :: c94 :: c95 :: c96 :: c97 :: c98 :: c99 :: c100 :: c101 :: c102 :: c103 :: c104 :: c105 :: c106 :: c107 :: c108 :: c109 :: c110 :: c111 :: c112 :: c113 :: c114 :: c115 :: c116 :: c117 :: c118 :: c119 :: c120 :: c121 :: c122 :: c123 :: c124 :: c125 :: c126 :: c127 :: c128 :: c129 :: c130 :: c131 :: c132 :: c133 :: c134 :: c135 :: c136 :: c137 :: c138 :: c139 :: c140 :: c141 :: c142 :: c143 :: c144 :: c145 :: c146 :: c147 :: c148 :: c149 :: c150 :: c151 :: c152 :: c153 :: c154 :: c155 :: c156 :: c157 :: c158 :: c159 :: c160 :: c161 :: c162 :: c163 :: c164 :: c165 :: c166 :: c167 :: c168 :: c169 :: c170 :: c171 :: c172 :: c173 :: c174 :: c175 :: c176 :: c177 :: c178 :: c179 :: c180 :: c181 :: c182 :: c183 :: c184 :: c185 :: c186 :: c187 :: c188 :: c189 :: c190 :: c191 :: c192 :: c193 :: c194 :: c195 :: c196 :: c197 :: c198 :: c199 :: c200 :: c201 :: c202 :: c203 :: c204 :: c205 :: c206 :: c207 :: c208 :: c209 :: c210 :: c211 :: c212 :: c213 :: c214 :: u215 :: u216 :: u217 :: u218 :: u219 :: u220 :: u221 :: u222 :: u223 :: u224 :: u225 :: u226 :: u227 :: u228 :: u229 :: u230 :: u231 :: u232 :: u233 :: u234 :: u235 :: u236 :: u237 :: u238 :: u239 :: u240 :: u241 :: u242 :: u243 :: u244 :: u245 :: u246 :: u247 :: u248 :: u249 :: u250 :: u251 :: u252 :: u253 :: u254 :: u255 :: u256 :: u257 :: u258 :: u259 :: u260 :: u261 :: u262 :: u263 :: u264 :: u265 :: u266 :: u267 :: u268 :: u269 :: u270 :: u271 :: u272 :: u273 :: u274 :: u275 :: u276 :: u277 :: u278 :: u279 :: u280 :: u281 :: u282 :: u283 :: u284 :: u285 :: u286 :: u287 :: u288 :: u289 :: u290 :: u291 :: u292 :: u293 :: u294 :: u295 :: .bool false :: c297 :: c298 :: c299 :: c300 :: c301 :: c302 :: c303 :: c304 :: c305 :: c306 :: c307 :: c308 :: c309 :: c310 :: c311 :: c312 :: c313 :: c314 :: c315 :: c316 :: c317 :: c318 :: c319 :: c320 :: c321 :: c322 :: c323 :: c324 :: c325 :: []).toArray, []⟩ w') :
    Code.wp Try.prog nmCond Q0 ⟨(c0 :: c1 :: c2 :: c3 :: .pointer (some ⟨pp, 0, none⟩) :: c5 :: c6 :: .pointer (some ⟨pa, 0, none⟩) :: c8 :: c9 :: c10 :: c11 :: c12 :: c13 :: c14 :: c15 :: c16 :: c17 :: c18 :: c19 :: c20 :: .int .i64 (I : Int) :: .int .i64 (J : Int) :: c23 :: c24 :: c25 :: c26 :: c27 :: c28 :: c29 :: c30 :: c31 :: c32 :: c33 :: c34 :: c35 :: c36 :: c37 :: c38 :: c39 :: c40 :: c41 :: c42 :: c43 :: c44 :: c45 :: c46 :: c47 :: c48 :: c49 :: c50 :: c51 :: c52 :: c53 :: c54 :: c55 :: c56 :: c57 :: c58 :: c59 :: c60 :: c61 :: c62 :: c63 :: c64 :: c65 :: c66 :: c67 :: c68 :: c69 :: c70 :: c71 :: c72 :: c73 :: c74 :: c75 :: c76 :: c77 :: c78 :: c79 :: c80 :: c81 :: c82 :: c83 :: c84 :: c85 :: c86 :: c87 :: c88 :: c89 :: c90 :: c91 :: c92 :: c93 :: c94 :: c95 :: c96 :: c97 :: c98 :: c99 :: c100 :: c101 :: c102 :: c103 :: c104 :: c105 :: c106 :: c107 :: c108 :: c109 :: c110 :: c111 :: c112 :: c113 :: c114 :: c115 :: c116 :: c117 :: c118 :: c119 :: c120 :: c121 :: c122 :: c123 :: c124 :: c125 :: c126 :: c127 :: c128 :: c129 :: c130 :: c131 :: c132 :: c133 :: c134 :: c135 :: c136 :: c137 :: c138 :: c139 :: c140 :: c141 :: c142 :: c143 :: c144 :: c145 :: c146 :: c147 :: c148 :: c149 :: c150 :: c151 :: c152 :: c153 :: c154 :: c155 :: c156 :: c157 :: c158 :: c159 :: c160 :: c161 :: c162 :: c163 :: c164 :: c165 :: c166 :: c167 :: c168 :: c169 :: c170 :: c171 :: c172 :: c173 :: c174 :: c175 :: c176 :: c177 :: c178 :: c179 :: c180 :: c181 :: c182 :: c183 :: c184 :: c185 :: c186 :: c187 :: c188 :: c189 :: c190 :: c191 :: c192 :: c193 :: c194 :: c195 :: c196 :: c197 :: c198 :: c199 :: c200 :: c201 :: c202 :: c203 :: c204 :: c205 :: c206 :: c207 :: c208 :: c209 :: c210 :: c211 :: c212 :: c213 :: c214 :: c215 :: c216 :: c217 :: c218 :: c219 :: c220 :: c221 :: c222 :: c223 :: c224 :: c225 :: c226 :: c227 :: c228 :: c229 :: c230 :: c231 :: c232 :: c233 :: c234 :: c235 :: c236 :: c237 :: c238 :: c239 :: c240 :: c241 :: c242 :: c243 :: c244 :: c245 :: c246 :: c247 :: c248 :: c249 :: c250 :: c251 :: c252 :: c253 :: c254 :: c255 :: c256 :: c257 :: c258 :: c259 :: c260 :: c261 :: c262 :: c263 :: c264 :: c265 :: c266 :: c267 :: c268 :: c269 :: c270 :: c271 :: c272 :: c273 :: c274 :: c275 :: c276 :: c277 :: c278 :: c279 :: c280 :: c281 :: c282 :: c283 :: c284 :: c285 :: c286 :: c287 :: c288 :: c289 :: c290 :: c291 :: c292 :: c293 :: c294 :: c295 :: c296 :: c297 :: c298 :: c299 :: c300 :: c301 :: c302 :: c303 :: c304 :: c305 :: c306 :: c307 :: c308 :: c309 :: c310 :: c311 :: c312 :: c313 :: c314 :: c315 :: c316 :: c317 :: c318 :: c319 :: c320 :: c321 :: c322 :: c323 :: c324 :: c325 :: []).toArray, []⟩ V := by
  have HQ := Lib.hid hQ
  clear hQ
  conv => arg 2; whnf
  simp only [List.append_eq, List.cons_append, List.nil_append]
  go_quiet (fail)
  (try intros)
  exact HQ.out _ _ _ _ _ _ _ _ _ _ _ _ _ _ _ _ _ _ _ _ _ _ _ _ _ _ _ _ _ _ _ _ _ _ _ _ _ _ _ _ _ _ _ _ _ _ _ _ _ _ _ _ _ _ _ _ _ _ _ _ _ _ _ _ _ _ _ _ _ _ _ _ _ _ _ _ _ _ _ _ _ _ (by repeat (first | with_reducible exact Ext.refl _ | with_reducible apply Ext.drew | with_reducible apply Ext.drewN | with_reducible apply Ext.alloc | ((with_reducible refine Ext.setCell ?_ ?_ _); rotate_left; focus (first | (simp; done) | (simp; omega) | omega)) | with_reducible refine Ext.tr ?_ x1 | with_reducible refine Ext.tr ?_ x2 | with_reducible refine Ext.tr ?_ x3 | with_reducible refine Ext.tr ?_ x6 | with_reducible refine Ext.tr ?_ x7 | with_reducible refine Ext.tr ?_ x8 | with_reducible refine Ext.tr ?_ hx | with_reducible assumption))
set_option maxHeartbeats 100000000 in
set_option maxRecDepth 1000000 in
theorem nm_cond_eq (V : World) (pp pa g2 bd od cd len I J : Nat) (x dm : Int) (hI : (I : Int) < (len : Int)) (hJ : (J : Int) < (len : Int))
    (kp : V.cell? ⟨pp, 1, none⟩ = some (.slice (some ⟨bd, od, none⟩) len cd)) (ka : V.cell? ⟨pa, 1, none⟩ = some (.slice (some ⟨g2, 0, none⟩) len len))
    (d1 : V.cell? ⟨bd, od + J, none⟩ = some (.int .i64 dm)) (d2 : V.cell? ⟨bd, od + I, none⟩ = some (.int .i64 dm)) (kx : V.cell? ⟨g2, J, none⟩ = some (.int .i64 x)) (kz : V.cell? ⟨g2, I, none⟩ = some (.int .i64 x))
     (Q0 : Exit → Act → World → Prop) (c0 c1 c2 c3 c5 c6 c8 c9 c10 c11 c12 c13 c14 c15 c16 c17 c18 c19 c20 c23 c24 c25 c26 c27 c28 c29 c30 c31 c32 c33 c34 c35 c36 c37 c38 c39 c40 c41 c42 c43 c44 c45 c46 c47 c48 c49 c50 c51 c52 c53 c54 c55 c56 c57 c58 c59 c60 c61 c62 c63 c64 c65 c66 c67 c68 c69 c70 c71 c72 c73 c74 c75 c76 c77 c78 c79 c80 c81 c82 c83 c84 c85 c86 c87 c88 c89 c90 c91 c92 c93 c94 c95 c96 c97 c98 c99 c100 c101 c102 c103 c104 c105 c106 c107 c108 c109 c110 c111 c112 c113 c114 c115 c116 c117 c118 c119 c120 c121 c122 c123 c124 c125 c126 c127 c128 c129 c130 c131 c132 c133 c134 c135 c136 c137 c138 c139 c140 c141 c142 c143 c144 c145 c146 c147 c148 c149 c150 c151 c152 c153 c154 c155 c156 c157 c158 c159 c160 c161 c162 c163 c164 c165 c166 c167 c168 c169 c170 c171 c172 c173 c174 c175 c176 c177 c178 c179 c180 c181 c182 c183 c184 c185 c186 c187 c188 c189 c190 c191 c192 c193 c194 c195 c196 c197 c198 c199 c200 c201 c202 c203 c204 c205 c206 c207 c208 c209 c210 c211 c212 c213 c214 c215 c216 c217 c218 c219 c220 c221 c222 c223 c224 c225 c226 c227 c228 c229 c230 c231 c232 c233 c234 c235 c236 c237 c238 c239 c240 c241 c242 c243 c244 c245 c246 c247 c248 c249 c250 c251 c252 c253 c254 c255 c256 c257 c258 c259 c260 c261 c262 c263 c264 c265 c266 c267 c268 c269 c270 c271 c272 c273 c274 c275 c276 c277 c278 c279 c280 c281 c282 c283 c284 c285 c286 c287 c288 c289 c290 c291 c292 c293 c294 c295 c296 c297 c298 c299 c300 c301 c302 c303 c304 c305 c306 c307 c308 c309 c310 c311 c312 c313 c314 c315 c316 c317 c318 c319 c320 c321 c322 c323 c324 c325 : Value)
    (hQ : ∀ (u215 u216 u217 u218 u219 u220 u221 u222 u223 u224 u225 u226 u227 u228 u229 u230 u231 u232 u233 u234 u235 u236 u237 u238 u239 u240 u241 u242 u243 u244 u245 u246 u247 u248 u249 u250 u251 u252 u253 u254 u255 u256 u257 u258 u259 u260 u261 u262 u263 u264 u265 u266 u267 u268 u269 u270 u271 u272 u273 u274 u275 u276 u277 u278 u279 u280 u281 u282 u283 u284 u285 u286 u287 u288 u289 u290 u291 u292 u293 u294 u295 : Value) (w' : World), Ext V w' → Q0 .normal ⟨(c0 :: c1 :: c2 :: c3 :: .pointer (some ⟨pp, 0, none⟩) :: c5 :: c6 :: .pointer (some ⟨pa, 0, none⟩) :: c8 :: c9 :: c10 :: c11 :: c12 :: c13 :: c14 :: c15 :: c16 :: c17 :: c18 :: c19 :: c20 :: .int .i64 (I : Int) :: .int .i64 (J : Int) :: c23 :: c24 :: c25 :: c26 :: c27 :: c28 :: c29 :: c30 :: c31 :: c32 :: c33 :: c34 :: c35 :: c36 :: c37 :: c38 :: c39 :: c40 :: c41 :: c42 :: c43 :: c44 :: c45 :: c46 :: c47 :: c48 :: c49 :: c50 :: c51 :: c52 :: c53 :: c54 :: c55 :: c56 :: c57 :: c58 :: c59 :: c60 :: c61 :: c62 :: c63 :: c64 :: c65 :: c66 :: c67 :: c68 :: c69 :: c70 :: c71 :: c72 :: c73 :: c74 :: c75 :: c76 :: c77 :: c78 :: c79 :: c80 :: c81 :: c82 :: c83 :: c84 :: c85 :: c86 :: c87 :: c88 :: c89 :: c90 :: c91 :: c92 :: c93 :: c94 :: c95 :: c96 :: c97 :: c98 :: c99 :: c100 :: c101 :: c102 :: c103 :: c104 :: c105 :: c106 :: c107 :: c108 :: c109 :: c110 :: c111 :: c112 :: c113 :: c114 :: c115 :: c116 :: c117 :: c118 :: c119 :: c120 :: c121 :: c122 :: c123 :: c124 :: c125 :: c126 :: c127 :: c128 :: c129 :: c130 :: c131 :: c132 :: c133 :: c134 :: c135 :: c136 :: c137 :: c138 :: c139 :: c140 :: c141 :: c142 :: c143 :: c144 :: c145 :: c146 :: c147 :: c148 :: c149 :: c150 :: c151 :: c152 :: c153 :: c154 :: c155 :: c156 :: c157 :: c158 :: c159 :: c160 :: c161 :: c162 :: c163 :: c164 :: c165 :: c166 :: c167 :: c168 :: c169 :: c170 :: c171 :: c172 :: c173 :: c174 :: c175 :: c176 :: c177 :: c178 :: c179 :: c180 :: c181 :: c182 :: c183 :: c184 :: c185 :: c186 :: c187 :: c188 :: c189 :: c190 :: c191 :: c192 :: c193 :: c194 :: c195 :: c196 :: c197 :: c198 :: c199 :: c200 :: c201 :: c202 :: c203 :: c204 :: c205 :: c206 :: c207 :: c208 :: c209 :: c210 :: c211 :: c212 :: c213 :: c214 :: u215 :: u216 :: u217 :: u218 :: u219 :: u220 :: u221 :: u222 :: u223 :: u224 :: u225 :: u226 :: u227 :: u228 :: u229 :: u230 :: u231 :: u232 :: u233 :: u234 :: u235 :: u236 :: u237 :: u238 :: u239 :: u240 :: u241 :: u242 :: u243 :: u244 :: u245 :: u246 :: u247 :: u248 :: u249 :: u250 :: u251 :: u252 :: u253 :: u254 :: u255 :: u256 :: u257 :: u258 :: u259 :: u260 :: u261 :: u262 :: u263 :: u264 :: u265 :: u266 :: u267 :: u268 :: u269 :: u270 :: u271 :: u272 :: u273 :: u274 :: u275 :: u276 :: u277 :: u278 :: u279 :: u280 :: u281 :: u282 :: u283 :: u284 :: u285 :: u286 :: u287 :: u288 :: u289 :: u290 :: u291 :: u292 :: u293 :: u294 :: u295 :: .bool false :: c297 :: c298 :: c299 :: c300 :: c301 :: c302 :: c303 :: c304 :: c305 :: c306 :: c307 :: c308 :: c309 :: c310 :: c311 :: c312 :: c313 :: c314 :: c315 :: c316 :: c317 :: c318 :: c319 :: c320 :: c321 :: c322 :: c323 :: c324 :: c325 :: []).toArray, []⟩ w') :
    Code.wp Try.prog nmCond Q0 ⟨(c0 :: c1 :: c2 :: c3 :: .pointer (some ⟨pp, 0, none⟩) :: c5 :: c6 :: .pointer (some ⟨pa, 0, none⟩) :: c8 :: c9 :: c10 :: c11 :: c12 :: c13 :: c14 :: c15 :: c16 :: c17 :: c18 :: c19 :: c20 :: .int .i64 (I : Int) :: .int .i64 (J : Int) :: c23 :: c24 :: c25 :: c26 :: c27 :: c28 :: c29 :: c30 :: c31 :: c32 :: c33 :: c34 :: c35 :: c36 :: c37 :: c38 :: c39 :: c40 :: c41 :: c42 :: c43 :: c44 :: c45 :: c46 :: c47 :: c48 :: c49 :: c50 :: c51 :: c52 :: c53 :: c54 :: c55 :: c56 :: c57 :: c58 :: c59 :: c60 :: c61 :: c62 :: c63 :: c64 :: c65 :: c66 :: c67 :: c68 :: c69 :: c70 :: c71 :: c72 :: c73 :: c74 :: c75 :: c76 :: c77 :: c78 :: c79 :: c80 :: c81 :: c82 :: c83 :: c84 :: c85 :: c86 :: c87 :: c88 :: c89 :: c90 :: c91 :: c92 :: c93 :: c94 :: c95 :: c96 :: c97 :: c98 :: c99 :: c100 :: c101 :: c102 :: c103 :: c104 :: c105 :: c106 :: c107 :: c108 :: c109 :: c110 :: c111 :: c112 :: c113 :: c114 :: c115 :: c116 :: c117 :: c118 :: c119 :: c120 :: c121 :: c122 :: c123 :: c124 :: c125 :: c126 :: c127 :: c128 :: c129 :: c130 :: c131 :: c132 :: c133 :: c134 :: c135 :: c136 :: c137 :: c138 :: c139 :: c140 :: c141 :: c142 :: c143 :: c144 :: c145 :: c146 :: c147 :: c148 :: c149 :: c150 :: c151 :: c152 :: c153 :: c154 :: c155 :: c156 :: c157 :: c158 :: c159 :: c160 :: c161 :: c162 :: c163 :: c164 :: c165 :: c166 :: c167 :: c168 :: c169 :: c170 :: c171 :: c172 :: c173 :: c174 :: c175 :: c176 :: c177 :: c178 :: c179 :: c180 :: c181 :: c182 :: c183 :: c184 :: c185 :: c186 :: c187 :: c188 :: c189 :: c190 :: c191 :: c192 :: c193 :: c194 :: c195 :: c196 :: c197 :: c198 :: c199 :: c200 :: c201 :: c202 :: c203 :: c204 :: c205 :: c206 :: c207 :: c208 :: c209 :: c210 :: c211 :: c212 :: c213 :: c214 :: c215 :: c216 :: c217 :: c218 :: c219 :: c220 :: c221 :: c222 :: c223 :: c224 :: c225 :: c226 :: c227 :: c228 :: c229 :: c230 :: c231 :: c232 :: c233 :: c234 :: c235 :: c236 :: c237 :: c238 :: c239 :: c240 :: c241 :: c242 :: c243 :: c244 :: c245 :: c246 :: c247 :: c248 :: c249 :: c250 :: c251 :: c252 :: c253 :: c254 :: c255 :: c256 :: c257 :: c258 :: c259 :: c260 :: c261 :: c262 :: c263 :: c264 :: c265 :: c266 :: c267 :: c268 :: c269 :: c270 :: c271 :: c272 :: c273 :: c274 :: c275 :: c276 :: c277 :: c278 :: c279 :: c280 :: c281 :: c282 :: c283 :: c284 :: c285 :: c286 :: c287 :: c288 :: c289 :: c290 :: c291 :: c292 :: c293 :: c294 :: c295 :: c296 :: c297 :: c298 :: c299 :: c300 :: c301 :: c302 :: c303 :: c304 :: c305 :: c306 :: c307 :: c308 :: c309 :: c310 :: c311 :: c312 :: c313 :: c314 :: c315 :: c316 :: c317 :: c318 :: c319 :: c320 :: c321 :: c322 :: c323 :: c324 :: c325 :: []).toArray, []⟩ V := by
  have HQ := Lib.hid hQ
  clear hQ
  conv => arg 2; whnf
  simp only [List.append_eq, List.cons_append, List.nil_append]
  go_quiet (fail)
  (try intros)
  exact HQ.out _ _ _ _ _ _ _ _ _ _ _ _ _ _ _ _ _ _ _ _ _ _ _ _ _ _ _ _ _ _ _ _ _ _ _ _ _ _ _ _ _ _ _ _ _ _ _ _ _ _ _ _ _ _ _ _ _ _ _ _ _ _ _ _ _ _ _ _ _ _ _ _ _ _ _ _ _ _ _ _ _ _ (by repeat (first | with_reducible exact Ext.refl _ | with_reducible apply Ext.drew | with_reducible apply Ext.drewN | with_reducible apply Ext.alloc | ((with_reducible refine Ext.setCell ?_ ?_ _); rotate_left; focus (first | (simp; done) | (simp; omega) | omega)) | with_reducible refine Ext.tr ?_ x1 | with_reducible refine Ext.tr ?_ x2 | with_reducible refine Ext.tr ?_ x3 | with_reducible refine Ext.tr ?_ x6 | with_reducible refine Ext.tr ?_ x7 | with_reducible refine Ext.tr ?_ x8 | with_reducible refine Ext.tr ?_ hx | with_reducible assumption))
end Go.Proofs.Ytjmecongccjcgaa
namespace Go.Proofs.Ytjmecongccjcgaa
open Go.RowKit
attribute [local go_sem ↓] Go.wp_at_zero Go.wp_at_succ
set_option maxHeartbeats 100000000 in
set_option maxRecDepth 1000000 in
theorem nm_loop5 (V : World) (pp pa g2 bd od cd len A c I : Nat) (ds zs : List Int) (hI : A + c = I) (hIl : I < len) (hl : len ≤ 24)
    (kp : V.cell? ⟨pp, 1, none⟩ = some (.slice (some ⟨bd, od, none⟩) len cd)) (ka : V.cell? ⟨pa, 1, none⟩ = some (.slice (some ⟨g2, 0, none⟩) len len))
    (hds : ∀ i, i < len → V.cell? ⟨bd, od + i, none⟩ = some (.int .i64 (ds.getD i 0))) (hzs : ∀ i, i < len → V.cell? ⟨g2, i, none⟩ = some (.int .i64 (zs.getD i 0)))
    (hord : ∀ e, e < c → (ds.getD (A + e) 0 ≤ ds.getD I 0 → zs.getD (A + e) 0 ≤ zs.getD I 0) ∧ (ds.getD I 0 ≤ ds.getD (A + e) 0 → zs.getD I 0 ≤ zs.getD (A + e) 0))
    (Q0 : Exit → Act → World → Prop) (c0 c1 c2 c3 c5 c6 c8 c9 c10 c11 c12 c13 c14 c15 c16 c17 c18 c19 c20 c23 c24 c25 c26 c27 c28 c29 c30 c31 c32 c33 c34 c35 c36 c37 c38 c39 c40 c41 c42 c43 c44 c45 c46 c47 c48 c49 c50 c51 c52 c53 c54 c55 c56 c57 c58 c59 c60 c61 c62 c63 c64 c65 c66 c67 c68 c69 c70 c71 c72 c73 c74 c75 c76 c77 c78 c79 c80 c81 c82 c83 c84 c85 c86 c87 c88 c89 c90 c91 c92 c93 c94 c95 c96 c97 c98 c99 c100 c101 c102 c103 c104 c105 c106 c107 c108 c109 c110 c111 c112 c113 c114 c115 c116 c117 c118 c119 c120 c121 c122 c123 c124 c125 c126 c127 c128 c129 c130 c131 c132 c133 c134 c135 c136 c137 c138 c139 c140 c141 c142 c143 c144 c145 c146 c147 c148 c149 c150 c151 c152 c153 c154 c155 c156 c157 c158 c159 c160 c161 c162 c163 c164 c165 c166 c167 c168 c169 c170 c171 c172 c173 c174 c175 c176 c177 c178 c179 c180 c181 c182 c183 c184 c185 c186 c187 c188 c189 c190 c191 c192 c193 c194 c195 c196 c197 c198 c199 c200 c201 c202 c203 c204 c205 c206 c207 c208 c209 c210 c211 c212 c213 c214 c215 c216 c217 c218 c219 c220 c221 c222 c223 c224 c225 c226 c227 c228 c229 c230 c231 c232 c233 c234 c235 c236 c237 c238 c239 c240 c241 c242 c243 c244 c245 c246 c247 c248 c249 c250 c251 c252 c253 c254 c255 c256 c257 c258 c259 c260 c261 c262 c263 c264 c265 c266 c267 c268 c269 c270 c271 c272 c273 c274 c275 c276 c277 c278 c279 c280 c281 c282 c283 c284 c285 c286 c287 c288 c289 c290 c291 c292 c293 c294 c295 c296 c297 c298 c299 c300 c301 c302 c303 c304 c305 c306 c307 c308 c309 c310 c311 c312 c313 c314 c315 c316 c317 c318 c319 c320 c321 c322 c323 c324 c325 : Value)
    (hexit : ∀ (u2 u22 u210 u211 u212 u213 u214 u215 u216 u217 u218 u219 u220 u221 u222 u223 u224 u225 u226 u227 u228 u229 u230 u231 u232 u233 u234 u235 u236 u237 u238 u239 u240 u241 u242 u243 u244 u245 u246 u247 u248 u249 u250 u251 u252 u253 u254 u255 u256 u257 u258 u259 u260 u261 u262 u263 u264 u265 u266 u267 u268 u269 u270 u271 u272 u273 u274 u275 u276 u277 u278 u279 u280 u281 u282 u283 u284 u285 u286 u287 u288 u289 u290 u291 u292 u293 u294 u295 u296 : Value) (w' : World), Ext V w' → Q0 (.exit 8) ⟨(c0 :: c1 :: u2 :: c3 :: .pointer (some ⟨pp, 0, none⟩) :: c5 :: c6 :: .pointer (some ⟨pa, 0, none⟩) :: c8 :: c9 :: c10 :: c11 :: c12 :: c13 :: c14 :: c15 :: c16 :: c17 :: c18 :: c19 :: c20 :: .int .i64 (I : Int) :: u22 :: c23 :: c24 :: c25 :: c26 :: c27 :: c28 :: c29 :: c30 :: c31 :: c32 :: c33 :: c34 :: c35 :: c36 :: c37 :: c38 :: c39 :: c40 :: c41 :: c42 :: c43 :: c44 :: c45 :: c46 :: c47 :: c48 :: c49 :: c50 :: c51 :: c52 :: c53 :: c54 :: c55 :: c56 :: c57 :: c58 :: c59 :: c60 :: c61 :: c62 :: c63 :: c64 :: c65 :: c66 :: c67 :: c68 :: c69 :: c70 :: c71 :: c72 :: c73 :: c74 :: c75 :: c76 :: c77 :: c78 :: c79 :: c80 :: c81 :: c82 :: c83 :: c84 :: c85 :: c86 :: c87 :: c88 :: c89 :: c90 :: c91 :: c92 :: c93 :: c94 :: c95 :: c96 :: c97 :: c98 :: c99 :: c100 :: c101 :: c102 :: c103 :: c104 :: c105 :: c106 :: c107 :: c108 :: c109 :: c110 :: c111 :: c112 :: c113 :: c114 :: c115 :: c116 :: c117 :: c118 :: c119 :: c120 :: c121 :: c122 :: c123 :: c124 :: c125 :: c126 :: c127 :: c128 :: c129 :: c130 :: c131 :: c132 :: c133 :: c134 :: c135 :: c136 :: c137 :: c138 :: c139 :: c140 :: c141 :: c142 :: c143 :: c144 :: c145 :: c146 :: c147 :: c148 :: c149 :: c150 :: c151 :: c152 :: c153 :: c154 :: c155 :: c156 :: c157 :: c158 :: c159 :: c160 :: c161 :: c162 :: c163 :: c164 :: c165 :: c166 :: c167 :: c168 :: c169 :: c170 :: c171 :: c172 :: c173 :: c174 :: c175 :: c176 :: c177 :: c178 :: c179 :: c180 :: c181 :: c182 :: c183 :: c184 :: c185 :: c186 :: c187 :: c188 :: c189 :: c190 :: c191 :: c192 :: c193 :: c194 :: c195 :: c196 :: c197 :: c198 :: c199 :: c200 :: c201 :: c202 :: c203 :: c204 :: c205 :: c206 :: c207 :: c208 :: c209 :: u210 :: u211 :: u212 :: u213 :: u214 :: u215 :: u216 :: u217 :: u218 :: u219 :: u220 :: u221 :: u222 :: u223 :: u224 :: u225 :: u226 :: u227 :: u228 :: u229 :: u230 :: u231 :: u232 :: u233 :: u234 :: u235 :: u236 :: u237 :: u238 :: u239 :: u240 :: u241 :: u242 :: u243 :: u244 :: u245 :: u246 :: u247 :: u248 :: u249 :: u250 :: u251 :: u252 :: u253 :: u254 :: u255 :: u256 :: u257 :: u258 :: u259 :: u260 :: u261 :: u262 :: u263 :: u264 :: u265 :: u266 :: u267 :: u268 :: u269 :: u270 :: u271 :: u272 :: u273 :: u274 :: u275 :: u276 :: u277 :: u278 :: u279 :: u280 :: u281 :: u282 :: u283 :: u284 :: u285 :: u286 :: u287 :: u288 :: u289 :: u290 :: u291 :: u292 :: u293 :: u294 :: u295 :: u296 :: c297 :: c298 :: c299 :: c300 :: c301 :: c302 :: c303 :: c304 :: c305 :: c306 :: c307 :: c308 :: c309 :: c310 :: c311 :: c312 :: c313 :: c314 :: c315 :: c316 :: c317 :: c318 :: c319 :: c320 :: c321 :: c322 :: c323 :: c324 :: c325 :: []).toArray, []⟩ w') :
    Code.wp Try.prog (Code.loop nmBody5) Q0 ⟨(c0 :: c1 :: c2 :: c3 :: .pointer (some ⟨pp, 0, none⟩) :: c5 :: c6 :: .pointer (some ⟨pa, 0, none⟩) :: c8 :: c9 :: c10 :: c11 :: c12 :: c13 :: c14 :: c15 :: c16 :: c17 :: c18 :: c19 :: c20 :: .int .i64 (I : Int) :: .int .i64 (A : Int) :: c23 :: c24 :: c25 :: c26 :: c27 :: c28 :: c29 :: c30 :: c31 :: c32 :: c33 :: c34 :: c35 :: c36 :: c37 :: c38 :: c39 :: c40 :: c41 :: c42 :: c43 :: c44 :: c45 :: c46 :: c47 :: c48 :: c49 :: c50 :: c51 :: c52 :: c53 :: c54 :: c55 :: c56 :: c57 :: c58 :: c59 :: c60 :: c61 :: c62 :: c63 :: c64 :: c65 :: c66 :: c67 :: c68 :: c69 :: c70 :: c71 :: c72 :: c73 :: c74 :: c75 :: c76 :: c77 :: c78 :: c79 :: c80 :: c81 :: c82 :: c83 :: c84 :: c85 :: c86 :: c87 :: c88 :: c89 :: c90 :: c91 :: c92 :: c93 :: c94 :: c95 :: c96 :: c97 :: c98 :: c99 :: c100 :: c101 :: c102 :: c103 :: c104 :: c105 :: c106 :: c107 :: c108 :: c109 :: c110 :: c111 :: c112 :: c113 :: c114 :: c115 :: c116 :: c117 :: c118 :: c119 :: c120 :: c121 :: c122 :: c123 :: c124 :: c125 :: c126 :: c127 :: c128 :: c129 :: c130 :: c131 :: c132 :: c133 :: c134 :: c135 :: c136 :: c137 :: c138 :: c139 :: c140 :: c141 :: c142 :: c143 :: c144 :: c145 :: c146 :: c147 :: c148 :: c149 :: c150 :: c151 :: c152 :: c153 :: c154 :: c155 :: c156 :: c157 :: c158 :: c159 :: c160 :: c161 :: c162 :: c163 :: c164 :: c165 :: c166 :: c167 :: c168 :: c169 :: c170 :: c171 :: c172 :: c173 :: c174 :: c175 :: c176 :: c177 :: c178 :: c179 :: c180 :: c181 :: c182 :: c183 :: c184 :: c185 :: c186 :: c187 :: c188 :: c189 :: c190 :: c191 :: c192 :: c193 :: c194 :: c195 :: c196 :: c197 :: c198 :: c199 :: c200 :: c201 :: c202 :: c203 :: c204 :: c205 :: c206 :: c207 :: c208 :: c209 :: c210 :: c211 :: c212 :: c213 :: c214 :: c215 :: c216 :: c217 :: c218 :: c219 :: c220 :: c221 :: c222 :: c223 :: c224 :: c225 :: c226 :: c227 :: c228 :: c229 :: c230 :: c231 :: c232 :: c233 :: c234 :: c235 :: c236 :: c237 :: c238 :: c239 :: c240 :: c241 :: c242 :: c243 :: c244 :: c245 :: c246 :: c247 :: c248 :: c249 :: c250 :: c251 :: c252 :: c253 :: c254 :: c255 :: c256 :: c257 :: c258 :: c259 :: c260 :: c261 :: c262 :: c263 :: c264 :: c265 :: c266 :: c267 :: c268 :: c269 :: c270 :: c271 :: c272 :: c273 :: c274 :: c275 :: c276 :: c277 :: c278 :: c279 :: c280 :: c281 :: c282 :: c283 :: c284 :: c285 :: c286 :: c287 :: c288 :: c289 :: c290 :: c291 :: c292 :: c293 :: c294 :: c295 :: c296 :: c297 :: c298 :: c299 :: c300 :: c301 :: c302 :: c303 :: c304 :: c305 :: c306 :: c307 :: c308 :: c309 :: c310 :: c311 :: c312 :: c313 :: c314 :: c315 :: c316 :: c317 :: c318 :: c319 :: c320 :: c321 :: c322 :: c323 :: c324 :: c325 :: []).toArray, []⟩ V := by
  have HEX := Lib.hid hexit
  have HDS := Lib.hid hds
  have HZS := Lib.hid hzs
  have HO := Lib.hid hord
  clear hexit hds hzs hord
  conv => arg 2; arg 1; whnf
  go_loopw [22] (fun mv wr => ∃ e : Nat, e ≤ c ∧ mv = .int .i64 ((A + e : Nat) : Int) ∧ Ext V wr) (fun mv _ => A + c - (intOf mv).toNat)
  case atStart => exact ⟨0, Nat.zero_le _, by simp, Ext.refl _⟩
  case round =>
    obtain ⟨e, he, rfl, hw⟩ := hrel
    have HW := Lib.hid hw
    rcases Nat.lt_or_ge e c with hle | hge
    · obtain ⟨J, hJ⟩ : ∃ J : Nat, A + e = J := ⟨_, rfl⟩
      rw [hJ]
      have hJI : (J : Int) < (I : Int) := by omega
      have hJd : J < len := by omega
      have hJd' : (J : Int) < (len : Int) := by omega
      have hIl' : (I : Int) < (len : Int) := by omega
      have kx := hw.cell (HZS.out J hJd)
      have kz := hw.cell (HZS.out I hIl)
      have d1 := hw.cell (HDS.out J hJd)
      have d2 := hw.cell (HDS.out I hIl)
      have pp1 := hw.cell kp
      have pa1 := hw.cell ka
      obtain ⟨L1, L2⟩ := HO.out e hle
      rw [hJ] at L1 L2
      have LE1 := Lib.hid L1
      have LE2 := Lib.hid L2
      have WJ : IntKind.i64.wrap ((J : Int) + 1) = (J : Int) + 1 := by rw [IntKind.wrap_i64]; omega
      clear L1 L2 kp ka hw HDS HZS HO
      generalize zs.getD J 0 = x at kx LE1 LE2
      generalize zs.getD I 0 = z at kz LE1 LE2
      generalize ds.getD J 0 = dm at d1 LE1 LE2
      generalize ds.getD I 0 = dk at d2 LE1 LE2
      rcases Int.lt_trichotomy dm dk with h | h | h
      · have g1 := LE1.out (by omega)
        have t1 : decide (dm < dk) = true := by simpa using h
        have t2 : decide (z < x) = false := by simp; omega
        have t3 : (dm == dk) = false := by rw [beq_eq_false_iff_ne]; omega
        have t4 : decide (dk < dm) = false := by simp; omega
        clear LE1 LE2 h g1
        go_wp2_with fail
        refine nm_cond_lt wr pp pa g2 bd od cd len I J x z dm dk hIl' hJd' pp1 pa1 d1 d2 kx kz t1 t2 t3 t4 _ _ _ _ _ _ _ _ _ _ _ _ _ _ _ _ _ _ _ _ _ _ _ _ _ _ _ _ _ _ _ _ _ _ _ _ _ _ _ _ _ _ _ _ _ _ _ _ _ _ _ _ _ _ _ _ _ _ _ _ _ _ _ _ _ _ _ _ _ _ _ _ _ _ _ _ _ _ _ _ _ _ _ _ _ _ _ _ _ _ _ _ _ _ _ _ _ _ _ _ _ _ _ _ _ _ _ _ _ _ _ _ _ _ _ _ _ _ _ _ _ _ _ _ _ _ _ _ _ _ _ _ _ _ _ _ _ _ _ _ _ _ _ _ _ _ _ _ _ _ _ _ _ _ _ _ _ _ _ _ _ _ _ _ _ _ _ _ _ _ _ _ _ _ _ _ _ _ _ _ _ _ _ _ _ _ _ _ _ _ _ _ _ _ _ _ _ _ _ _ _ _ _ _ _ _ _ _ _ _ _ _ _ _ _ _ _ _ _ _ _ _ _ _ _ _ _ _ _ _ _ _ _ _ _ _ _ _ _ _ _ _ _ _ _ _ _ _ _ _ _ _ _ _ _ _ _ _ _ _ _ _ _ _ _ _ _ _ _ _ _ _ _ _ _ _ _ _ _ _ _ _ _ _ _ _ _ _ _ _ _ _ _ _ _ _ _ _ _ _ _ _ _ _ _ _ _ _ _ _ _ _ _ _ _ _ _ _ _ _ _ _ _ ?_
        intros
        rename_i hx9
        go_wp2_with fail
        go_roundw
        case rel => exact ⟨e + 1, by omega, by simp; omega, HW.out.tr hx9⟩
        case measure => simp [intOf]; omega
      · subst h
        have g1 : x = z := Int.le_antisymm (LE1.out (Int.le_refl _)) (LE2.out (Int.le_refl _))
        subst g1
        clear LE1 LE2
        go_wp2_with fail
        refine nm_cond_eq wr pp pa g2 bd od cd len I J x dm hIl' hJd' pp1 pa1 d1 d2 kx kz _ _ _ _ _ _ _ _ _ _ _ _ _ _ _ _ _ _ _ _ _ _ _ _ _ _ _ _ _ _ _ _ _ _ _ _ _ _ _ _ _ _ _ _ _ _ _ _ _ _ _ _ _ _ _ _ _ _ _ _ _ _ _ _ _ _ _ _ _ _ _ _ _ _ _ _ _ _ _ _ _ _ _ _ _ _ _ _ _ _ _ _ _ _ _ _ _ _ _ _ _ _ _ _ _ _ _ _ _ _ _ _ _ _ _ _ _ _ _ _ _ _ _ _ _ _ _ _ _ _ _ _ _ _ _ _ _ _ _ _ _ _ _ _ _ _ _ _ _ _ _ _ _ _ _ _ _ _ _ _ _ _ _ _ _ _ _ _ _ _ _ _ _ _ _ _ _ _ _ _ _ _ _ _ _ _ _ _ _ _ _ _ _ _ _ _ _ _ _ _ _ _ _ _ _ _ _ _ _ _ _ _ _ _ _ _ _ _ _ _ _ _ _ _ _ _ _ _ _ _ _ _ _ _ _ _ _ _ _ _ _ _ _ _ _ _ _ _ _ _ _ _ _ _ _ _ _ _ _ _ _ _ _ _ _ _ _ _ _ _ _ _ _ _ _ _ _ _ _ _ _ _ _ _ _ _ _ _ _ _ _ _ _ _ _ _ _ _ _ _ _ _ _ _ _ _ _ _ _ _ _ _ _ _ _ _ _ _ _ _ _ _ _ ?_
        intros
        rename_i hx9
        go_wp2_with fail
        go_roundw
        case rel => exact ⟨e + 1, by omega, by simp; omega, HW.out.tr hx9⟩
        case measure => simp [intOf]; omega
      · have g1 := LE2.out (by omega)
        have t1 : decide (dm < dk) = false := by simp; omega
        have t2 : decide (x < z) = false := by simp; omega
        have t3 : (dm == dk) = false := by rw [beq_eq_false_iff_ne]; omega
        have t4 : decide (dk < dm) = true := by simpa using h
        clear LE1 LE2 h g1
        go_wp2_with fail
        refine nm_cond_gt wr pp pa g2 bd od cd len I J x z dm dk hIl' hJd' pp1 pa1 d1 d2 kx kz t1 t2 t3 t4 _ _ _ _ _ _ _ _ _ _ _ _ _ _ _ _ _ _ _ _ _ _ _ _ _ _ _ _ _ _ _ _ _ _ _ _ _ _ _ _ _ _ _ _ _ _ _ _ _ _ _ _ _ _ _ _ _ _ _ _ _ _ _ _ _ _ _ _ _ _ _ _ _ _ _ _ _ _ _ _ _ _ _ _ _ _ _ _ _ _ _ _ _ _ _ _ _ _ _ _ _ _ _ _ _ _ _ _ _ _ _ _ _ _ _ _ _ _ _ _ _ _ _ _ _ _ _ _ _ _ _ _ _ _ _ _ _ _ _ _ _ _ _ _ _ _ _ _ _ _ _ _ _ _ _ _ _ _ _ _ _ _ _ _ _ _ _ _ _ _ _ _ _ _ _ _ _ _ _ _ _ _ _ _ _ _ _ _ _ _ _ _ _ _ _ _ _ _ _ _ _ _ _ _ _ _ _ _ _ _ _ _ _ _ _ _ _ _ _ _ _ _ _ _ _ _ _ _ _ _ _ _ _ _ _ _ _ _ _ _ _ _ _ _ _ _ _ _ _ _ _ _ _ _ _ _ _ _ _ _ _ _ _ _ _ _ _ _ _ _ _ _ _ _ _ _ _ _ _ _ _ _ _ _ _ _ _ _ _ _ _ _ _ _ _ _ _ _ _ _ _ _ _ _ _ _ _ _ _ _ _ _ _ _ _ _ _ _ _ _ _ _ _ ?_
        intros
        rename_i hx9
        go_wp2_with fail
        go_roundw
        case rel => exact ⟨e + 1, by omega, by simp; omega, HW.out.tr hx9⟩
        case measure => simp [intOf]; omega
    · obtain rfl : e = c := by omega
      have nlt : ¬ (((A + e : Nat) : Int) < (I : Int)) := by omega
      clear kp ka HDS HZS HO
      go_wp2_with fail
      exact HEX.out _ _ _ _ _ _ _ _ _ _ _ _ _ _ _ _ _ _ _ _ _ _ _ _ _ _ _ _ _ _ _ _ _ _ _ _ _ _ _ _ _ _ _ _ _ _ _ _ _ _ _ _ _ _ _ _ _ _ _ _ _ _ _ _ _ _ _ _ _ _ _ _ _ _ _ _ _ _ _ _ _ _ _ _ _ _ _ _ _ _ HW.out
end Go.Proofs.Ytjmecongccjcgaa
namespace Go.Proofs.Ytjmecongccjcgaa
open Go.RowKit
attribute [local go_sem ↓] Go.wp_at_zero Go.wp_at_succ
set_option maxHeartbeats 100000000 in
set_option maxRecDepth 1000000 in
theorem nm_loop4 (v8 V : World) (pp pa py g2 g4 bd od cd len A n : Nat) (ds zs : List Int) (hAn : A + n ≤ len) (hl : len ≤ 24)
    (kp : v8.cell? ⟨pp, 1, none⟩ = some (.slice (some ⟨bd, od, none⟩) len cd)) (ka : v8.cell? ⟨pa, 1, none⟩ = some (.slice (some ⟨g2, 0, none⟩) len len)) (ky : v8.cell? ⟨py, 1, none⟩ = some (.slice (some ⟨g4, 0, none⟩) len len))
    (hds : ∀ i, i < len → v8.cell? ⟨bd, od + i, none⟩ = some (.int .i64 (ds.getD i 0))) (hzs : ∀ i, i < len → v8.cell? ⟨g2, i, none⟩ = some (.int .i64 (zs.getD i 0))) (hys : ∀ i, i < len → v8.cell? ⟨g4, i, none⟩ = some (.int .i64 (-zs.getD i 0)))
    (hord : ∀ c, c < n → ∀ e, e < c → (ds.getD (A + e) 0 ≤ ds.getD (A + c) 0 → zs.getD (A + e) 0 ≤ zs.getD (A + c) 0) ∧ (ds.getD (A + c) 0 ≤ ds.getD (A + e) 0 → zs.getD (A + c) 0 ≤ zs.getD (A + e) 0))
    (hgd : ∀ c, c < n → gd (zs.getD (A + c) 0) = true) {sa0 : Option Addr} {sk0 sc0 : Nat}
    (hbs : Blk V v8.heap.size 59 #[.bool false, .slice sa0 sk0 sc0]) (hns : NatAt V (.slice sa0 sk0 sc0) 0 6) (hof : Off v8.heap.size (.slice sa0 sk0 sc0)) (hxv : Ext v8 V)
    (Q0 : Exit → Act → World → Prop) (c0 c1 c2 c3 c5 c8 c9 c10 c11 c12 c13 c14 c15 c16 c18 c22 c23 c24 c25 c26 c27 c28 c29 c30 c31 c32 c33 c34 c35 c36 c37 c38 c39 c40 c41 c42 c43 c44 c45 c46 c47 c48 c49 c50 c51 c52 c53 c54 c55 c56 c57 c58 c59 c60 c61 c62 c63 c64 c65 c66 c67 c68 c69 c70 c71 c72 c73 c74 c75 c76 c77 c78 c79 c80 c81 c82 c83 c84 c85 c86 c87 c88 c89 c90 c91 c92 c93 c94 c95 c96 c97 c98 c99 c100 c101 c102 c103 c104 c105 c106 c107 c108 c109 c110 c111 c112 c113 c114 c115 c116 c117 c118 c119 c120 c121 c122 c123 c124 c125 c126 c127 c128 c129 c130 c131 c132 c133 c134 c135 c136 c137 c138 c139 c140 c141 c142 c143 c144 c145 c146 c147 c148 c149 c150 c151 c152 c153 c154 c155 c156 c157 c158 c159 c160 c161 c162 c163 c164 c165 c166 c167 c168 c169 c170 c171 c172 c173 c174 c175 c176 c177 c178 c179 c180 c181 c182 c183 c184 c185 c186 c187 c188 c189 c190 c191 c192 c193 c194 c195 c196 c197 c198 c199 c200 c201 c202 c203 c204 c205 c206 c207 c208 c209 c210 c211 c212 c213 c214 c215 c216 c217 c218 c219 c220 c221 c222 c223 c224 c225 c226 c227 c228 c229 c230 c231 c232 c233 c234 c235 c236 c237 c238 c239 c240 c241 c242 c243 c244 c245 c246 c247 c248 c249 c250 c251 c252 c253 c254 c255 c256 c257 c258 c259 c260 c261 c262 c263 c264 c265 c266 c267 c268 c269 c270 c271 c272 c273 c274 c275 c276 c277 c278 c279 c280 c281 c282 c283 c284 c285 c286 c287 c288 c289 c290 c291 c292 c293 c294 c295 c296 c297 c298 c299 c300 c301 c302 c303 c304 c305 c306 c307 c308 c309 c310 c311 c312 c313 c314 c315 c316 c317 c318 c319 c320 c321 c322 c323 c324 c325 : Value)
    (hexit : ∀ (u2 u21 u22 u23 u24 u190 u191 u192 u193 u194 u195 u196 u197 u198 u199 u200 u201 u202 u203 u204 u205 u206 u207 u208 u209 u210 u211 u212 u213 u214 u215 u216 u217 u218 u219 u220 u221 u222 u223 u224 u225 u226 u227 u228 u229 u230 u231 u232 u233 u234 u235 u236 u237 u238 u239 u240 u241 u242 u243 u244 u245 u246 u247 u248 u249 u250 u251 u252 u253 u254 u255 u256 u257 u258 u259 u260 u261 u262 u263 u264 u265 u266 u267 u268 u269 u270 u271 u272 u273 u274 u275 u276 u277 u278 u279 u280 u281 u282 u283 u284 u285 u286 u287 u288 u289 u290 u291 u292 u293 u294 u295 u296 u297 u298 u299 u300 u301 u302 u303 u304 u305 u306 u307 u308 u309 u310 u311 u312 u313 u314 u315 : Value) (sa : Option Addr) (sk sc : Nat) (w' : World), Blk w' v8.heap.size 59 #[.bool false, .slice sa sk sc] → NatAt w' (.slice sa sk sc) (sumN (fun i => sq1 (zs.getD (A + i) 0)) n) (6 + n) → Ext v8 w' → Q0 (.exit 6) ⟨(c0 :: c1 :: u2 :: c3 :: .pointer (some ⟨pp, 0, none⟩) :: c5 :: .int .i64 (n : Int) :: .pointer (some ⟨pa, 0, none⟩) :: c8 :: c9 :: c10 :: c11 :: c12 :: c13 :: c14 :: c15 :: c16 :: .pointer (some ⟨py, 0, none⟩) :: c18 :: .int .i64 (A : Int) :: .pointer (some ⟨v8.heap.size, 0, none⟩) :: u21 :: u22 :: u23 :: u24 :: c25 :: c26 :: c27 :: c28 :: c29 :: c30 :: c31 :: c32 :: c33 :: c34 :: c35 :: c36 :: c37 :: c38 :: c39 :: c40 :: c41 :: c42 :: c43 :: c44 :: c45 :: c46 :: c47 :: c48 :: c49 :: c50 :: c51 :: c52 :: c53 :: c54 :: c55 :: c56 :: c57 :: c58 :: c59 :: c60 :: c61 :: c62 :: c63 :: c64 :: c65 :: c66 :: c67 :: c68 :: c69 :: c70 :: c71 :: c72 :: c73 :: c74 :: c75 :: c76 :: c77 :: c78 :: c79 :: c80 :: c81 :: c82 :: c83 :: c84 :: c85 :: c86 :: c87 :: c88 :: c89 :: c90 :: c91 :: c92 :: c93 :: c94 :: c95 :: c96 :: c97 :: c98 :: c99 :: c100 :: c101 :: c102 :: c103 :: c104 :: c105 :: c106 :: c107 :: c108 :: c109 :: c110 :: c111 :: c112 :: c113 :: c114 :: c115 :: c116 :: c117 :: c118 :: c119 :: c120 :: c121 :: c122 :: c123 :: c124 :: c125 :: c126 :: c127 :: c128 :: c129 :: c130 :: c131 :: c132 :: c133 :: c134 :: c135 :: c136 :: c137 :: c138 :: c139 :: c140 :: c141 :: c142 :: c143 :: c144 :: c145 :: c146 :: c147 :: c148 :: c149 :: c150 :: c151 :: c152 :: c153 :: c154 :: c155 :: c156 :: c157 :: c158 :: c159 :: c160 :: c161 :: c162 :: c163 :: c164 :: c165 :: c166 :: c167 :: c168 :: c169 :: c170 :: c171 :: c172 :: c173 :: c174 :: c175 :: c176 :: c177 :: c178 :: c179 :: c180 :: c181 :: c182 :: c183 :: c184 :: c185 :: c186 :: c187 :: c188 :: c189 :: u190 :: u191 :: u192 :: u193 :: u194 :: u195 :: u196 :: u197 :: u198 :: u199 :: u200 :: u201 :: u202 :: u203 :: u204 :: u205 :: u206 :: u207 :: u208 :: u209 :: u210 :: u211 :: u212 :: u213 :: u214 :: u215 :: u216 :: u217 :: u218 :: u219 :: u220 :: u221 :: u222 :: u223 :: u224 :: u225 :: u226 :: u227 :: u228 :: u229 :: u230 :: u231 :: u232 :: u233 :: u234 :: u235 :: u236 :: u237 :: u238 :: u239 :: u240 :: u241 :: u242 :: u243 :: u244 :: u245 :: u246 :: u247 :: u248 :: u249 :: u250 :: u251 :: u252 :: u253 :: u254 :: u255 :: u256 :: u257 :: u258 :: u259 :: u260 :: u261 :: u262 :: u263 :: u264 :: u265 :: u266 :: u267 :: u268 :: u269 :: u270 :: u271 :: u272 :: u273 :: u274 :: u275 :: u276 :: u277 :: u278 :: u279 :: u280 :: u281 :: u282 :: u283 :: u284 :: u285 :: u286 :: u287 :: u288 :: u289 :: u290 :: u291 :: u292 :: u293 :: u294 :: u295 :: u296 :: u297 :: u298 :: u299 :: u300 :: u301 :: u302 :: u303 :: u304 :: u305 :: u306 :: u307 :: u308 :: u309 :: u310 :: u311 :: u312 :: u313 :: u314 :: u315 :: c316 :: c317 :: c318 :: c319 :: c320 :: c321 :: c322 :: c323 :: c324 :: c325 :: []).toArray, []⟩ w') :
    Code.wp Try.prog (Code.loop nmBody4) Q0 ⟨(c0 :: c1 :: c2 :: c3 :: .pointer (some ⟨pp, 0, none⟩) :: c5 :: .int .i64 (n : Int) :: .pointer (some ⟨pa, 0, none⟩) :: c8 :: c9 :: c10 :: c11 :: c12 :: c13 :: c14 :: c15 :: c16 :: .pointer (some ⟨py, 0, none⟩) :: c18 :: .int .i64 (A : Int) :: .pointer (some ⟨v8.heap.size, 0, none⟩) :: .int .i64 (A : Int) :: c22 :: c23 :: c24 :: c25 :: c26 :: c27 :: c28 :: c29 :: c30 :: c31 :: c32 :: c33 :: c34 :: c35 :: c36 :: c37 :: c38 :: c39 :: c40 :: c41 :: c42 :: c43 :: c44 :: c45 :: c46 :: c47 :: c48 :: c49 :: c50 :: c51 :: c52 :: c53 :: c54 :: c55 :: c56 :: c57 :: c58 :: c59 :: c60 :: c61 :: c62 :: c63 :: c64 :: c65 :: c66 :: c67 :: c68 :: c69 :: c70 :: c71 :: c72 :: c73 :: c74 :: c75 :: c76 :: c77 :: c78 :: c79 :: c80 :: c81 :: c82 :: c83 :: c84 :: c85 :: c86 :: c87 :: c88 :: c89 :: c90 :: c91 :: c92 :: c93 :: c94 :: c95 :: c96 :: c97 :: c98 :: c99 :: c100 :: c101 :: c102 :: c103 :: c104 :: c105 :: c106 :: c107 :: c108 :: c109 :: c110 :: c111 :: c112 :: c113 :: c114 :: c115 :: c116 :: c117 :: c118 :: c119 :: c120 :: c121 :: c122 :: c123 :: c124 :: c125 :: c126 :: c127 :: c128 :: c129 :: c130 :: c131 :: c132 :: c133 :: c134 :: c135 :: c136 :: c137 :: c138 :: c139 :: c140 :: c141 :: c142 :: c143 :: c144 :: c145 :: c146 :: c147 :: c148 :: c149 :: c150 :: c151 :: c152 :: c153 :: c154 :: c155 :: c156 :: c157 :: c158 :: c159 :: c160 :: c161 :: c162 :: c163 :: c164 :: c165 :: c166 :: c167 :: c168 :: c169 :: c170 :: c171 :: c172 :: c173 :: c174 :: c175 :: c176 :: c177 :: c178 :: c179 :: c180 :: c181 :: c182 :: c183 :: c184 :: c185 :: c186 :: c187 :: c188 :: c189 :: c190 :: c191 :: c192 :: c193 :: c194 :: c195 :: c196 :: c197 :: c198 :: c199 :: c200 :: c201 :: c202 :: c203 :: c204 :: c205 :: c206 :: c207 :: c208 :: c209 :: c210 :: c211 :: c212 :: c213 :: c214 :: c215 :: c216 :: c217 :: c218 :: c219 :: c220 :: c221 :: c222 :: c223 :: c224 :: c225 :: c226 :: c227 :: c228 :: c229 :: c230 :: c231 :: c232 :: c233 :: c234 :: c235 :: c236 :: c237 :: c238 :: c239 :: c240 :: c241 :: c242 :: c243 :: c244 :: c245 :: c246 :: c247 :: c248 :: c249 :: c250 :: c251 :: c252 :: c253 :: c254 :: c255 :: c256 :: c257 :: c258 :: c259 :: c260 :: c261 :: c262 :: c263 :: c264 :: c265 :: c266 :: c267 :: c268 :: c269 :: c270 :: c271 :: c272 :: c273 :: c274 :: c275 :: c276 :: c277 :: c278 :: c279 :: c280 :: c281 :: c282 :: c283 :: c284 :: c285 :: c286 :: c287 :: c288 :: c289 :: c290 :: c291 :: c292 :: c293 :: c294 :: c295 :: c296 :: c297 :: c298 :: c299 :: c300 :: c301 :: c302 :: c303 :: c304 :: c305 :: c306 :: c307 :: c308 :: c309 :: c310 :: c311 :: c312 :: c313 :: c314 :: c315 :: c316 :: c317 :: c318 :: c319 :: c320 :: c321 :: c322 :: c323 :: c324 :: c325 :: []).toArray, []⟩ V := by
  have HEX := Lib.hid hexit
  have HDS := Lib.hid hds
  have HZS := Lib.hid hzs
  have HYS := Lib.hid hys
  have HORD := Lib.hid hord
  have HGD := Lib.hid hgd
  have HBS := Lib.hid hbs
  have HNS := Lib.hid hns
  have HOF := Lib.hid hof
  have HXV := Lib.hid hxv
  clear hexit hds hzs hys hord hgd hbs hns hof hxv
  conv => arg 2; arg 1; whnf
  go_loopw [21] (fun kv wr => ∃ (c : Nat) (sa : Option Addr) (sk sc : Nat), c ≤ n ∧ kv = .int .i64 ((A + c : Nat) : Int) ∧ Blk wr v8.heap.size 59 #[.bool false, .slice sa sk sc] ∧ NatAt wr (.slice sa sk sc) (sumN (fun i => sq1 (zs.getD (A + i) 0)) c) (6 + c) ∧ Off v8.heap.size (.slice sa sk sc) ∧ Ext v8 wr) (fun kv _ => A + n - (intOf kv).toNat)
  case atStart => exact ⟨0, sa0, sk0, sc0, Nat.zero_le _, by simp, HBS.out, HNS.out, HOF.out, HXV.out⟩
  case round =>
    clear HBS HNS HOF HXV
    obtain ⟨c, sa, sk, sc, hc, rfl, bs, hs, ho, h9⟩ := hrel
    obtain ⟨V9, rfl⟩ : ∃ V9 : World, V9 = wr := ⟨_, rfl⟩
    obtain ⟨I, hI⟩ : ∃ I : Nat, A + c = I := ⟨_, rfl⟩
    rw [hI]
    have HI := Lib.hid hI
    have BS := Lib.hid bs
    have HS := Lib.hid hs
    have HO := Lib.hid ho
    have H9 := Lib.hid h9
    have ma1' := h9.cell ka
    have my1' := h9.cell ky
    have mp1' := h9.cell kp
    have wAn : IntKind.i64.wrap ((A : Int) + (n : Int)) = ((A + n : Nat) : Int) := by rw [IntKind.wrap_i64]; omega
    rcases Nat.lt_or_ge c n with hlc | hgc
    · have hIlt : (I : Int) < ((A + n : Nat) : Int) := by omega
      have hId : I < len := by omega
      have hId' : (I : Int) < (len : Int) := by omega
      have kz := h9.cell (HZS.out I hId)
      have ky' := h9.cell (HYS.out I hId)
      have gz := gd_iff.1 (HGD.out c hlc)
      rw [hI] at gz
      have HDS9 := Lib.hid (fun i (hi : i < len) => h9.cell (HDS.out i hi))
      have HZS9 := Lib.hid (fun i (hi : i < len) => h9.cell (HZS.out i hi))
      have HO9 := Lib.hid (HORD.out c hlc)
      rw [hI] at HO9
      obtain ⟨z, hz⟩ : ∃ z, zs.getD I 0 = z := ⟨_, rfl⟩
      rw [hz] at kz ky' gz
      obtain ⟨gz1, gz2⟩ := gz
      have wn : IntKind.i64.wrap (-z) = -z := by rw [IntKind.wrap_i64]; omega
      have SUM := Lib.hid (show sumN (fun i => sq1 (zs.getD (A + i) 0)) (c + 1) = sumN (fun i => sq1 (zs.getD (A + i) 0)) c + sq1 z by rw [sumN, hI, hz])
      have KP := Lib.hid (And.intro mp1' ma1')
      have HIE := Lib.hid hI
      clear bs hs ho h9 ka ky kp hz hI HDS HZS HYS HORD HGD mp1'
      go_wp2_with fail
      go_quiet (fail)
      go_wp2_with fail
      refine nm_loop5 (V9.drewN nq) pp pa g2 bd od cd len A c I ds zs HIE.out hId hl KP.out.1 KP.out.2 HDS9.out HZS9.out HO9.out _ _ _ _ _ _ _ _ _ _ _ _ _ _ _ _ _ _ _ _ _ _ _ _ _ _ _ _ _ _ _ _ _ _ _ _ _ _ _ _ _ _ _ _ _ _ _ _ _ _ _ _ _ _ _ _ _ _ _ _ _ _ _ _ _ _ _ _ _ _ _ _ _ _ _ _ _ _ _ _ _ _ _ _ _ _ _ _ _ _ _ _ _ _ _ _ _ _ _ _ _ _ _ _ _ _ _ _ _ _ _ _ _ _ _ _ _ _ _ _ _ _ _ _ _ _ _ _ _ _ _ _ _ _ _ _ _ _ _ _ _ _ _ _ _ _ _ _ _ _ _ _ _ _ _ _ _ _ _ _ _ _ _ _ _ _ _ _ _ _ _ _ _ _ _ _ _ _ _ _ _ _ _ _ _ _ _ _ _ _ _ _ _ _ _ _ _ _ _ _ _ _ _ _ _ _ _ _ _ _ _ _ _ _ _ _ _ _ _ _ _ _ _ _ _ _ _ _ _ _ _ _ _ _ _ _ _ _ _ _ _ _ _ _ _ _ _ _ _ _ _ _ _ _ _ _ _ _ _ _ _ _ _ _ _ _ _ _ _ _ _ _ _ _ _ _ _ _ _ _ _ _ _ _ _ _ _ _ _ _ _ _ _ _ _ _ _ _ _ _ _ _ _ _ _ _ _ _ _ _ _ _ _ _ _ _ _ _ _ _ _ _ _ ?_
      intros
      rename_i V10 hwq
      have hw : Ext V9 V10 := ((Ext.refl V9).drewN nq).tr hwq
      clear hwq
      have kz' := hw.cell kz
      have pa1 := hw.cell ma1'
      have BS1 := Lib.hid (BS.out.ext hw)
      have HS1 := Lib.hid (HS.out.ext hw)
      have H91 := Lib.hid (H9.out.tr hw)
      have FR := Lib.hid (fun u => From_ref z u (by omega) (by omega))
      clear BS HS H9 my1' ma1' kz hw
      go_wp2_with fail
      refine (FR.out _).mono ?_
      rintro e1 v11 ⟨q1, rfl, x11, h11⟩
      have AB := Lib.hid (Abs_ref h11)
      have X11 := Lib.hid x11
      clear FR kz' pa1 x11 h11
      go_wp2_with fail
      refine (AB.out).mono ?_
      rintro e1 v12 ⟨q2, rfl, x12, h12⟩
      obtain ⟨a2, k2, cc2, e2, -⟩ := h12.form
      rw [show decide (mag z < 0) = false by have := mag_nn z; simp; omega] at e2
      subst e2
      have LF := Lib.hid (fun u (x : Ext v12 u) => Left_ref (n := 1) (q := 0) (s := 1) (h12.ext x) (by omega) (by omega) (by omega) (by omega))
      have X12 := Lib.hid (X11.out.tr x12)
      clear AB h12 X11 x12
      go_wp2_with fail
      refine (LF.out _ (by repeat (first | with_reducible exact Ext.refl _ | with_reducible apply Ext.drew | with_reducible apply Ext.drewN | with_reducible apply Ext.alloc | ((with_reducible refine Ext.setCell ?_ ?_ _); rotate_left; focus (first | (simp; done) | (simp; omega) | omega)) | with_reducible refine Ext.tr ?_ x1 | with_reducible refine Ext.tr ?_ x2 | with_reducible refine Ext.tr ?_ x3 | with_reducible refine Ext.tr ?_ x6 | with_reducible refine Ext.tr ?_ x7 | with_reducible refine Ext.tr ?_ x8 | with_reducible refine Ext.tr ?_ hx | with_reducible assumption))).mono ?_
      rintro e1 v13 ⟨q3, rfl, x2, h13, -⟩
      have X13 := Lib.hid (X12.out.tr (show Ext v12 v13 from (by repeat (first | with_reducible exact Ext.refl _ | with_reducible apply Ext.drew | with_reducible apply Ext.drewN | with_reducible apply Ext.alloc | ((with_reducible refine Ext.setCell ?_ ?_ _); rotate_left; focus (first | (simp; done) | (simp; omega) | omega)) | with_reducible refine Ext.tr ?_ x1 | with_reducible refine Ext.tr ?_ x2 | with_reducible refine Ext.tr ?_ x3 | with_reducible refine Ext.tr ?_ x6 | with_reducible refine Ext.tr ?_ x7 | with_reducible refine Ext.tr ?_ x8 | with_reducible refine Ext.tr ?_ hx | with_reducible assumption))))
      have F1 := Lib.hid (fun u => From_ref 1 u (by omega) (by omega))
      have H13 := Lib.hid h13
      clear LF h13 x2 X12
      go_wp2_with fail
      refine (F1.out _).mono ?_
      rintro e1 v14 ⟨q4, rfl, x14, h14⟩
      have LS := Lib.hid (Less_ref (H13.out.ext x14) (h14.mono (show 1 ≤ 1 + 0 + 1 by omega)) (by omega))
      have X14 := Lib.hid (X13.out.tr x14)
      clear F1 H13 h14 x14 X13
      go_wp2_with fail
      refine (LS.out).mono ?_
      rintro e1 v15 ⟨q5, rfl, x15, h15, -⟩
      have hDz : mag z * 2 ^ (64 * 0 + 1) - 1 = 2 * mag z - 1 := by rw [show (2 : Int) ^ (64 * 0 + 1) = 2 by decide]; omega
      rw [hDz] at h15
      have hq1 : sq1 z = if 0 < 2 * mag z - 1 then (2 * mag z - 1) * (2 * mag z - 1) else 0 := rfl
      have hDm := mag_nn z
      obtain ⟨D, hD⟩ : ∃ D, 2 * mag z - 1 = D := ⟨_, rfl⟩
      rw [hD] at h15 hq1
      obtain ⟨a5, k5, c5, e5, -⟩ := h15.form
      have X15 := Lib.hid (X14.out.tr x15)
      have SG := Lib.hid (fun u (x : Ext v15 u) => Sign_ref (h15.ext x))
      have BS5 := Lib.hid (BS1.out.ext X15.out)
      have HS5 := Lib.hid (HS1.out.ext X15.out)
      have H95 := Lib.hid (H91.out.tr X15.out)
      clear LS X14 x15 BS1 HS1 H91 X15 hDz
      rcases Int.lt_or_le 0 D with d0 | d0
      · rw [show decide (D < 0) = false by simp; omega] at e5
        subst e5
        rw [show sgn D = 1 by unfold sgn; rw [if_neg (by omega), if_pos d0]] at SG
        rw [if_pos d0] at hq1
        have H15 := Lib.hid h15
        have HQ1 := Lib.hid hq1
        clear h15 hq1 hD hDm d0
        go_wp2_with fail
        refine (SG.out _ (by repeat (first | with_reducible exact Ext.refl _ | with_reducible apply Ext.drew | with_reducible apply Ext.drewN | with_reducible apply Ext.alloc | ((with_reducible refine Ext.setCell ?_ ?_ _); rotate_left; focus (first | (simp; done) | (simp; omega) | omega)) | with_reducible refine Ext.tr ?_ x1 | with_reducible refine Ext.tr ?_ x2 | with_reducible refine Ext.tr ?_ x3 | with_reducible refine Ext.tr ?_ x6 | with_reducible refine Ext.tr ?_ x7 | with_reducible refine Ext.tr ?_ x8 | with_reducible refine Ext.tr ?_ hx | with_reducible assumption))).mono ?_
        rintro e1 v16 ⟨rfl, x3⟩
        have B24 := (Blk.new v15 59 #[.bool false, .slice a5 k5 c5]).ext x3
        have X16 : Ext v15 v16 := (by repeat (first | with_reducible exact Ext.refl _ | with_reducible apply Ext.drew | with_reducible apply Ext.drewN | with_reducible apply Ext.alloc | ((with_reducible refine Ext.setCell ?_ ?_ _); rotate_left; focus (first | (simp; done) | (simp; omega) | omega)) | with_reducible refine Ext.tr ?_ x1 | with_reducible refine Ext.tr ?_ x2 | with_reducible refine Ext.tr ?_ x3 | with_reducible refine Ext.tr ?_ x6 | with_reducible refine Ext.tr ?_ x7 | with_reducible refine Ext.tr ?_ x8 | with_reducible refine Ext.tr ?_ hx | with_reducible assumption))
        have b20 := BS5.out.ext X16
        have g0 : v16.cell? ⟨v15.heap.size, 0, none⟩ = some (.bool false) := B24.cell 0
        have g1 : v16.cell? ⟨v15.heap.size, 1, none⟩ = some (.slice a5 k5 c5) := B24.cell 1
        have j0 : v16.cell? ⟨v8.heap.size, 0, none⟩ = some (.bool false) := b20.cell 0
        have j1 : v16.cell? ⟨v8.heap.size, 1, none⟩ = some (.slice sa sk sc) := b20.cell 1
        have f0 := b20.frozen 0
        have f1 := b20.frozen 1
        have TI := Lib.hid (fun u (x : Ext v16 u) => Times_ref ((H15.out.ext X16).ext x) ((H15.out.ext X16).ext x) (by omega))
        obtain ⟨SS, hSS⟩ : ∃ SS, sumN (fun i => sq1 (zs.getD (A + i) 0)) c = SS := ⟨_, rfl⟩
        have HSS := Lib.hid hSS
        have hs5 := HS5.out
        rw [hSS] at hs5
        have ss0 := hs5.nn
        have dd0 : 0 ≤ D * D := sq_nn D
        have SQI := Lib.hid (show IntAt v15 (.agg #[.bool false, .slice sa sk sc]) SS (6 + c) from IntAt.of (by simp; omega) (by rw [show mag SS = SS by rw [mag, if_neg (by omega)]]; exact hs5))
        have PL := Lib.hid (fun u q (h : IntAt u q (D * D) (2 * (1 + 0 + 1 + 1))) (x : Ext v16 u) => Plus_ref ((SQI.out.ext X16).ext x) (h.mono (show 2 * (1 + 0 + 1 + 1) ≤ 6 + c by omega)) (by omega))
        have NN := Lib.hid (show decide (SS + D * D < 0) = false by simp; omega)
        have MG := Lib.hid (show mag (SS + D * D) = SS + D * D by rw [mag, if_neg (by omega)])
        have B20 := Lib.hid b20
        have XF := Lib.hid (H95.out.tr X16)
        have z15 := X16.size
        have z8 := XF.out.size
        have z8b : v8.heap.size < v16.heap.size := b20.lt
        have z15b : v15.heap.size < v16.heap.size := B24.lt
        clear SG x3 B24 X16 b20 BS5 HS5 H95 hSS hs5 ss0 dd0 H15 SQI
        go_wp2_with fail
        go_region_with (first
          | (go_at_call 29; refine (TI.out _ (by repeat (first | with_reducible exact Ext.refl _ | with_reducible apply Ext.drew | with_reducible apply Ext.drewN | with_reducible apply Ext.alloc | ((with_reducible refine Ext.setCell ?_ ?_ _); rotate_left; focus (first | (simp; done) | (simp; omega) | omega)) | with_reducible refine Ext.tr ?_ x1 | with_reducible refine Ext.tr ?_ x2 | with_reducible refine Ext.tr ?_ x3 | with_reducible refine Ext.tr ?_ x6 | with_reducible refine Ext.tr ?_ x7 | with_reducible refine Ext.tr ?_ x8 | with_reducible refine Ext.tr ?_ hx | with_reducible assumption))).mono ?_; rintro e v6 ⟨q6, rfl, x6, h6, -⟩; obtain ⟨c6, f6⟩ := x6.rules; have z6 := x6.size; clear TI; have y6 : Ext v16 v6 := (by repeat (first | with_reducible exact Ext.refl _ | with_reducible apply Ext.drew | with_reducible apply Ext.drewN | with_reducible apply Ext.alloc | ((with_reducible refine Ext.setCell ?_ ?_ _); rotate_left; focus (first | (simp; done) | (simp; omega) | omega)) | with_reducible refine Ext.tr ?_ x1 | with_reducible refine Ext.tr ?_ x2 | with_reducible refine Ext.tr ?_ x3 | with_reducible refine Ext.tr ?_ x6 | with_reducible refine Ext.tr ?_ x7 | with_reducible refine Ext.tr ?_ x8 | with_reducible refine Ext.tr ?_ hx | with_reducible assumption)); have t0 := y6.cell j0; have t1 := y6.cell j1; have tf0 := y6.frozen j0 f0; have tf1 := y6.frozen j1 f1; have zt : v8.heap.size < v6.heap.size := cell_lt t0)
          | (go_at_call 28; refine (PL.out _ _ (h6.ext (by repeat (first | with_reducible exact Ext.refl _ | with_reducible apply Ext.drew | with_reducible apply Ext.drewN | with_reducible apply Ext.alloc | ((with_reducible refine Ext.setCell ?_ ?_ _); rotate_left; focus (first | (simp; done) | (simp; omega) | omega)) | with_reducible refine Ext.tr ?_ x1 | with_reducible refine Ext.tr ?_ x2 | with_reducible refine Ext.tr ?_ x3 | with_reducible refine Ext.tr ?_ x6 | with_reducible refine Ext.tr ?_ x7 | with_reducible refine Ext.tr ?_ x8 | with_reducible refine Ext.tr ?_ hx | with_reducible assumption))) (by repeat (first | with_reducible exact Ext.refl _ | with_reducible apply Ext.drew | with_reducible apply Ext.drewN | with_reducible apply Ext.alloc | ((with_reducible refine Ext.setCell ?_ ?_ _); rotate_left; focus (first | (simp; done) | (simp; omega) | omega)) | with_reducible refine Ext.tr ?_ x1 | with_reducible refine Ext.tr ?_ x2 | with_reducible refine Ext.tr ?_ x3 | with_reducible refine Ext.tr ?_ x6 | with_reducible refine Ext.tr ?_ x7 | with_reducible refine Ext.tr ?_ x8 | with_reducible refine Ext.tr ?_ hx | with_reducible assumption))).mono ?_; rintro e v7 ⟨q7, rfl, x7, h7, n7⟩; obtain ⟨c7, f7⟩ := x7.rules; have z7 := x7.size; clear PL; obtain ⟨a18, k18, c18, e18, hn18⟩ := h7.form; rw [NN.out] at e18; subst e18; have y7 : Ext v16 v7 := (by repeat (first | with_reducible exact Ext.refl _ | with_reducible apply Ext.drew | with_reducible apply Ext.drewN | with_reducible apply Ext.alloc | ((with_reducible refine Ext.setCell ?_ ?_ _); rotate_left; focus (first | (simp; done) | (simp; omega) | omega)) | with_reducible refine Ext.tr ?_ x1 | with_reducible refine Ext.tr ?_ x2 | with_reducible refine Ext.tr ?_ x3 | with_reducible refine Ext.tr ?_ x6 | with_reducible refine Ext.tr ?_ x7 | with_reducible refine Ext.tr ?_ x8 | with_reducible refine Ext.tr ?_ hx | with_reducible assumption)); have u0 := y7.cell j0; have u1 := y7.cell j1; have uf0 := y7.frozen j0 f0; have uf1 := y7.frozen j1 f1; have zu : v8.heap.size < v7.heap.size := cell_lt u0))
        all_goals
          have O7 : Off v8.heap.size (.slice a18 k18 c18) := (n7 _ _ rfl).off (by first | exact zt | (simp; omega) | omega)
          have B7 : Blk ((v7.setCell ⟨v8.heap.size, 0, none⟩ (.bool false)).setCell ⟨v8.heap.size, 1, none⟩ (.slice a18 k18 c18)) v8.heap.size 59 #[.bool false, .slice a18 k18 c18] := by
            have h := ((B20.out.ext y7).set_ 0 (.bool false)).set_ 1 (.slice a18 k18 c18)
            simpa using h
          have N7 : NatAt ((v7.setCell ⟨v8.heap.size, 0, none⟩ (.bool false)).setCell ⟨v8.heap.size, 1, none⟩ (.slice a18 k18 c18)) (.slice a18 k18 c18) (SS + D * D) (6 + (c + 1)) := by
            rw [MG.out] at hn18
            exact ((hn18.off O7).off O7).mono (by omega)
          have XZ : Ext v8 ((v7.setCell ⟨v8.heap.size, 0, none⟩ (.bool false)).setCell ⟨v8.heap.size, 1, none⟩ (.slice a18 k18 c18)) := ((XF.out.tr y7).setCell (Nat.le_refl _) _).setCell (Nat.le_refl _) _
          have B7H := Lib.hid B7
          have N7H := Lib.hid N7
          have XZH := Lib.hid XZ
          have O7H := Lib.hid O7
          clear B7 N7 XZ O7 h7 n7 hn18 h6 
          go_wp2_with fail
          go_roundw
          case rel => exact ⟨c + 1, a18, k18, c18, by omega, by have := HI.out; simp; omega, B7H.out, by rw [SUM.out, HSS.out, HQ1.out]; exact N7H.out, O7H.out, XZH.out⟩
          case measure => simp [intOf]; have := HI.out; omega
      · rw [show sgn D = -1 by unfold sgn; rw [if_pos (by omega)]] at SG
        rw [if_neg (by omega)] at hq1
        obtain ⟨B5, hB5⟩ : ∃ B, decide (D < 0) = B := ⟨_, rfl⟩
        rw [hB5] at e5
        subst e5
        have HQ1 := Lib.hid hq1
        have SG2 := Lib.hid SG.out
        clear hq1 hD hDm d0 h15 hB5 SG
        go_wp2_with fail
        refine (SG2.out _ (by repeat (first | with_reducible exact Ext.refl _ | with_reducible apply Ext.drew | with_reducible apply Ext.drewN | with_reducible apply Ext.alloc | ((with_reducible refine Ext.setCell ?_ ?_ _); rotate_left; focus (first | (simp; done) | (simp; omega) | omega)) | with_reducible refine Ext.tr ?_ x1 | with_reducible refine Ext.tr ?_ x2 | with_reducible refine Ext.tr ?_ x3 | with_reducible refine Ext.tr ?_ x6 | with_reducible refine Ext.tr ?_ x7 | with_reducible refine Ext.tr ?_ x8 | with_reducible refine Ext.tr ?_ hx | with_reducible assumption))).mono ?_
        rintro e1 v16 ⟨rfl, x3⟩
        have X16 : Ext v15 v16 := (by repeat (first | with_reducible exact Ext.refl _ | with_reducible apply Ext.drew | with_reducible apply Ext.drewN | with_reducible apply Ext.alloc | ((with_reducible refine Ext.setCell ?_ ?_ _); rotate_left; focus (first | (simp; done) | (simp; omega) | omega)) | with_reducible refine Ext.tr ?_ x1 | with_reducible refine Ext.tr ?_ x2 | with_reducible refine Ext.tr ?_ x3 | with_reducible refine Ext.tr ?_ x6 | with_reducible refine Ext.tr ?_ x7 | with_reducible refine Ext.tr ?_ x8 | with_reducible refine Ext.tr ?_ hx | with_reducible assumption))
        have XF := Lib.hid (H95.out.tr X16)
        have B20 := Lib.hid (BS5.out.ext X16)
        have N20 := Lib.hid (HS5.out.ext X16)
        clear SG2 x3 X16 BS5 HS5 H95
        go_wp2_with fail
        go_roundw
        case rel => exact ⟨c + 1, sa, sk, sc, by omega, by have := HI.out; simp; omega, B20.out, by rw [SUM.out, HQ1.out, Int.add_zero]; exact N20.out.mono (by omega), HO.out, XF.out⟩
        case measure => simp [intOf]; have := HI.out; omega
    · have hcn : c = n := by omega
      have hIn : ¬ (I : Int) < ((A + n : Nat) : Int) := by omega
      rw [hcn] at hs
      have HS2 := Lib.hid hs
      clear hs HS BS HO H9 ma1' my1' mp1' ho HDS HZS HYS HORD HGD
      have BS2 := Lib.hid bs
      have H92 := Lib.hid h9
      clear bs h9
      go_wp2_with fail
      exact HEX.out _ _ _ _ _ _ _ _ _ _ _ _ _ _ _ _ _ _ _ _ _ _ _ _ _ _ _ _ _ _ _ _ _ _ _ _ _ _ _ _ _ _ _ _ _ _ _ _ _ _ _ _ _ _ _ _ _ _ _ _ _ _ _ _ _ _ _ _ _ _ _ _ _ _ _ _ _ _ _ _ _ _ _ _ _ _ _ _ _ _ _ _ _ _ _ _ _ _ _ _ _ _ _ _ _ _ _ _ _ _ _ _ _ _ _ _ _ _ _ _ _ _ _ _ _ _ _ _ _ _ _ _ _ _ _ BS2.out HS2.out H92.out
end Go.Proofs.Ytjmecongccjcgaa
namespace Go.Proofs.Ytjmecongccjcgaa
open Go.RowKit
attribute [local go_sem ↓] Go.wp_at_zero Go.wp_at_succ
theorem nm_facts {ds zs : List Int} {n m : Nat} {eps f : Int} (hm : ds.length = m * n) (n0 : 0 < n) (h24 : ds.length ≤ 24) (e0 : 0 < eps) (f8 : 8 ≤ f) (f32 : f ≤ 32) (hN : NormTo ds n eps f zs ds.length) :
    (∀ j, j < m → ∀ c, c < n → ∀ e, e < c → (ds.getD (j * n + e) 0 ≤ ds.getD (j * n + c) 0 → zs.getD (j * n + e) 0 ≤ zs.getD (j * n + c) 0) ∧ (ds.getD (j * n + c) 0 ≤ ds.getD (j * n + e) 0 → zs.getD (j * n + c) 0 ≤ zs.getD (j * n + e) 0)) ∧
    (∀ i, i < ds.length → gd (zs.getD i 0) = true) ∧ (∀ j, j < m → sumN (fun i => sq1 (zs.getD (j * n + i) 0)) n ≤ n * (4 * p2 (2 * f))) := by
  have row : ∀ j, j < m → j * n + n ≤ ds.length := fun j hj => by
    have := Nat.mul_le_mul_right n (show j + 1 ≤ m by omega)
    rw [Nat.add_mul] at this
    omega
  refine ⟨fun j hj c hc e he => ?_, fun i hi => ?_, fun j hj => row_squares rfl n0 e0 (row j hj) hN⟩
  · have RK := norm_row (A := j * n) rfl hc (row j hj) hN
    have RJ := norm_row (A := j * n) rfl (show e < n by omega) (row j hj) hN
    exact ⟨fun h => RJ.le RK n0 e0 h, fun h => RK.le RJ n0 e0 h⟩
  · have hn : n ≤ 24 := by
      have : 0 < m := by
        rcases Nat.eq_zero_or_pos m with h | h
        · subst h; omega
        · exact h
      have := Nat.mul_le_mul_right n this
      omega
    exact (hN i hi).good n0 hn e0 (by omega) f32 (Nat.mod_lt _ n0)
set_option maxHeartbeats 100000000 in
set_option maxRecDepth 1000000 in
theorem nm_loop3 (V : World) (pp pa py g2 g4 bd od cd len n m : Nat) (f : Int) (ds zs : List Int) (hm : len = m * n) (n0 : 0 < n) (hl : len ≤ 24) (f8 : 8 ≤ f) (f32 : f ≤ 32)
    (kp : V.cell? ⟨pp, 1, none⟩ = some (.slice (some ⟨bd, od, none⟩) len cd)) (ka : V.cell? ⟨pa, 1, none⟩ = some (.slice (some ⟨g2, 0, none⟩) len len)) (ky : V.cell? ⟨py, 1, none⟩ = some (.slice (some ⟨g4, 0, none⟩) len len))
    (hds : ∀ i, i < len → V.cell? ⟨bd, od + i, none⟩ = some (.int .i64 (ds.getD i 0))) (hzs : ∀ i, i < len → V.cell? ⟨g2, i, none⟩ = some (.int .i64 (zs.getD i 0))) (hys : ∀ i, i < len → V.cell? ⟨g4, i, none⟩ = some (.int .i64 (-zs.getD i 0)))
    (hord : ∀ j, j < m → ∀ c, c < n → ∀ e, e < c → (ds.getD (j * n + e) 0 ≤ ds.getD (j * n + c) 0 → zs.getD (j * n + e) 0 ≤ zs.getD (j * n + c) 0) ∧ (ds.getD (j * n + c) 0 ≤ ds.getD (j * n + e) 0 → zs.getD (j * n + c) 0 ≤ zs.getD (j * n + e) 0))
    (hgd : ∀ i, i < len → gd (zs.getD i 0) = true) (hsum : ∀ j, j < m → sumN (fun i => sq1 (zs.getD (j * n + i) 0)) n ≤ n * (4 * p2 (2 * f)))
    (Q0 : Exit → Act → World → Prop) (c0 c1 c2 c3 c8 c9 c10 c11 c12 c13 c14 c15 c16 c18 c20 c21 c22 c23 c24 c25 c26 c27 c28 c29 c30 c31 c32 c33 c34 c35 c36 c37 c38 c39 c40 c41 c42 c43 c44 c45 c46 c47 c48 c49 c50 c51 c52 c53 c54 c55 c56 c57 c58 c59 c60 c61 c62 c63 c64 c65 c66 c67 c68 c69 c70 c71 c72 c73 c74 c75 c76 c77 c78 c79 c80 c81 c82 c83 c84 c85 c86 c87 c88 c89 c90 c91 c92 c93 c94 c95 c96 c97 c98 c99 c100 c101 c102 c103 c104 c105 c106 c107 c108 c109 c110 c111 c112 c113 c114 c115 c116 c117 c118 c119 c120 c121 c122 c123 c124 c125 c126 c127 c128 c129 c130 c131 c132 c133 c134 c135 c136 c137 c138 c139 c140 c141 c142 c143 c144 c145 c146 c147 c148 c149 c150 c151 c152 c153 c154 c155 c156 c157 c158 c159 c160 c161 c162 c163 c164 c165 c166 c167 c168 c169 c170 c171 c172 c173 c174 c175 c176 c177 c178 c179 c180 c181 c182 c183 c184 c185 c186 c187 c188 c189 c190 c191 c192 c193 c194 c195 c196 c197 c198 c199 c200 c201 c202 c203 c204 c205 c206 c207 c208 c209 c210 c211 c212 c213 c214 c215 c216 c217 c218 c219 c220 c221 c222 c223 c224 c225 c226 c227 c228 c229 c230 c231 c232 c233 c234 c235 c236 c237 c238 c239 c240 c241 c242 c243 c244 c245 c246 c247 c248 c249 c250 c251 c252 c253 c254 c255 c256 c257 c258 c259 c260 c261 c262 c263 c264 c265 c266 c267 c268 c269 c270 c271 c272 c273 c274 c275 c276 c277 c278 c279 c280 c281 c282 c283 c284 c285 c286 c287 c288 c289 c290 c291 c292 c293 c294 c295 c296 c297 c298 c299 c300 c301 c302 c303 c304 c305 c306 c307 c308 c309 c310 c311 c312 c313 c314 c315 c316 c317 c318 c319 c320 c321 c322 c323 c324 c325 : Value)
    (hexit : ∀ (u2 u19 u20 u21 u22 u23 u24 u180 u181 u182 u183 u184 u185 u186 u187 u188 u189 u190 u191 u192 u193 u194 u195 u196 u197 u198 u199 u200 u201 u202 u203 u204 u205 u206 u207 u208 u209 u210 u211 u212 u213 u214 u215 u216 u217 u218 u219 u220 u221 u222 u223 u224 u225 u226 u227 u228 u229 u230 u231 u232 u233 u234 u235 u236 u237 u238 u239 u240 u241 u242 u243 u244 u245 u246 u247 u248 u249 u250 u251 u252 u253 u254 u255 u256 u257 u258 u259 u260 u261 u262 u263 u264 u265 u266 u267 u268 u269 u270 u271 u272 u273 u274 u275 u276 u277 u278 u279 u280 u281 u282 u283 u284 u285 u286 u287 u288 u289 u290 u291 u292 u293 u294 u295 u296 u297 u298 u299 u300 u301 u302 u303 u304 u305 u306 u307 u308 u309 u310 u311 u312 u313 u314 u315 u316 u317 u318 u319 u320 u321 u322 u323 u324 : Value) (w' : World), Ext V w' → Q0 (.exit 4) ⟨(c0 :: c1 :: u2 :: c3 :: .pointer (some ⟨pp, 0, none⟩) :: .int .i64 f :: .int .i64 (n : Int) :: .pointer (some ⟨pa, 0, none⟩) :: c8 :: c9 :: c10 :: c11 :: c12 :: c13 :: c14 :: c15 :: c16 :: .pointer (some ⟨py, 0, none⟩) :: c18 :: u19 :: u20 :: u21 :: u22 :: u23 :: u24 :: c25 :: c26 :: c27 :: c28 :: c29 :: c30 :: c31 :: c32 :: c33 :: c34 :: c35 :: c36 :: c37 :: c38 :: c39 :: c40 :: c41 :: c42 :: c43 :: c44 :: c45 :: c46 :: c47 :: c48 :: c49 :: c50 :: c51 :: c52 :: c53 :: c54 :: c55 :: c56 :: c57 :: c58 :: c59 :: c60 :: c61 :: c62 :: c63 :: c64 :: c65 :: c66 :: c67 :: c68 :: c69 :: c70 :: c71 :: c72 :: c73 :: c74 :: c75 :: c76 :: c77 :: c78 :: c79 :: c80 :: c81 :: c82 :: c83 :: c84 :: c85 :: c86 :: c87 :: c88 :: c89 :: c90 :: c91 :: c92 :: c93 :: c94 :: c95 :: c96 :: c97 :: c98 :: c99 :: c100 :: c101 :: c102 :: c103 :: c104 :: c105 :: c106 :: c107 :: c108 :: c109 :: c110 :: c111 :: c112 :: c113 :: c114 :: c115 :: c116 :: c117 :: c118 :: c119 :: c120 :: c121 :: c122 :: c123 :: c124 :: c125 :: c126 :: c127 :: c128 :: c129 :: c130 :: c131 :: c132 :: c133 :: c134 :: c135 :: c136 :: c137 :: c138 :: c139 :: c140 :: c141 :: c142 :: c143 :: c144 :: c145 :: c146 :: c147 :: c148 :: c149 :: c150 :: c151 :: c152 :: c153 :: c154 :: c155 :: c156 :: c157 :: c158 :: c159 :: c160 :: c161 :: c162 :: c163 :: c164 :: c165 :: c166 :: c167 :: c168 :: c169 :: c170 :: c171 :: c172 :: c173 :: c174 :: c175 :: c176 :: c177 :: c178 :: c179 :: u180 :: u181 :: u182 :: u183 :: u184 :: u185 :: u186 :: u187 :: u188 :: u189 :: u190 :: u191 :: u192 :: u193 :: u194 :: u195 :: u196 :: u197 :: u198 :: u199 :: u200 :: u201 :: u202 :: u203 :: u204 :: u205 :: u206 :: u207 :: u208 :: u209 :: u210 :: u211 :: u212 :: u213 :: u214 :: u215 :: u216 :: u217 :: u218 :: u219 :: u220 :: u221 :: u222 :: u223 :: u224 :: u225 :: u226 :: u227 :: u228 :: u229 :: u230 :: u231 :: u232 :: u233 :: u234 :: u235 :: u236 :: u237 :: u238 :: u239 :: u240 :: u241 :: u242 :: u243 :: u244 :: u245 :: u246 :: u247 :: u248 :: u249 :: u250 :: u251 :: u252 :: u253 :: u254 :: u255 :: u256 :: u257 :: u258 :: u259 :: u260 :: u261 :: u262 :: u263 :: u264 :: u265 :: u266 :: u267 :: u268 :: u269 :: u270 :: u271 :: u272 :: u273 :: u274 :: u275 :: u276 :: u277 :: u278 :: u279 :: u280 :: u281 :: u282 :: u283 :: u284 :: u285 :: u286 :: u287 :: u288 :: u289 :: u290 :: u291 :: u292 :: u293 :: u294 :: u295 :: u296 :: u297 :: u298 :: u299 :: u300 :: u301 :: u302 :: u303 :: u304 :: u305 :: u306 :: u307 :: u308 :: u309 :: u310 :: u311 :: u312 :: u313 :: u314 :: u315 :: u316 :: u317 :: u318 :: u319 :: u320 :: u321 :: u322 :: u323 :: u324 :: c325 :: []).toArray, []⟩ w') :
    Code.wp Try.prog (Code.loop nmBody3) Q0 ⟨(c0 :: c1 :: c2 :: c3 :: .pointer (some ⟨pp, 0, none⟩) :: .int .i64 f :: .int .i64 (n : Int) :: .pointer (some ⟨pa, 0, none⟩) :: c8 :: c9 :: c10 :: c11 :: c12 :: c13 :: c14 :: c15 :: c16 :: .pointer (some ⟨py, 0, none⟩) :: c18 :: .int .i64 0 :: c20 :: c21 :: c22 :: c23 :: c24 :: c25 :: c26 :: c27 :: c28 :: c29 :: c30 :: c31 :: c32 :: c33 :: c34 :: c35 :: c36 :: c37 :: c38 :: c39 :: c40 :: c41 :: c42 :: c43 :: c44 :: c45 :: c46 :: c47 :: c48 :: c49 :: c50 :: c51 :: c52 :: c53 :: c54 :: c55 :: c56 :: c57 :: c58 :: c59 :: c60 :: c61 :: c62 :: c63 :: c64 :: c65 :: c66 :: c67 :: c68 :: c69 :: c70 :: c71 :: c72 :: c73 :: c74 :: c75 :: c76 :: c77 :: c78 :: c79 :: c80 :: c81 :: c82 :: c83 :: c84 :: c85 :: c86 :: c87 :: c88 :: c89 :: c90 :: c91 :: c92 :: c93 :: c94 :: c95 :: c96 :: c97 :: c98 :: c99 :: c100 :: c101 :: c102 :: c103 :: c104 :: c105 :: c106 :: c107 :: c108 :: c109 :: c110 :: c111 :: c112 :: c113 :: c114 :: c115 :: c116 :: c117 :: c118 :: c119 :: c120 :: c121 :: c122 :: c123 :: c124 :: c125 :: c126 :: c127 :: c128 :: c129 :: c130 :: c131 :: c132 :: c133 :: c134 :: c135 :: c136 :: c137 :: c138 :: c139 :: c140 :: c141 :: c142 :: c143 :: c144 :: c145 :: c146 :: c147 :: c148 :: c149 :: c150 :: c151 :: c152 :: c153 :: c154 :: c155 :: c156 :: c157 :: c158 :: c159 :: c160 :: c161 :: c162 :: c163 :: c164 :: c165 :: c166 :: c167 :: c168 :: c169 :: c170 :: c171 :: c172 :: c173 :: c174 :: c175 :: c176 :: c177 :: c178 :: c179 :: c180 :: c181 :: c182 :: c183 :: c184 :: c185 :: c186 :: c187 :: c188 :: c189 :: c190 :: c191 :: c192 :: c193 :: c194 :: c195 :: c196 :: c197 :: c198 :: c199 :: c200 :: c201 :: c202 :: c203 :: c204 :: c205 :: c206 :: c207 :: c208 :: c209 :: c210 :: c211 :: c212 :: c213 :: c214 :: c215 :: c216 :: c217 :: c218 :: c219 :: c220 :: c221 :: c222 :: c223 :: c224 :: c225 :: c226 :: c227 :: c228 :: c229 :: c230 :: c231 :: c232 :: c233 :: c234 :: c235 :: c236 :: c237 :: c238 :: c239 :: c240 :: c241 :: c242 :: c243 :: c244 :: c245 :: c246 :: c247 :: c248 :: c249 :: c250 :: c251 :: c252 :: c253 :: c254 :: c255 :: c256 :: c257 :: c258 :: c259 :: c260 :: c261 :: c262 :: c263 :: c264 :: c265 :: c266 :: c267 :: c268 :: c269 :: c270 :: c271 :: c272 :: c273 :: c274 :: c275 :: c276 :: c277 :: c278 :: c279 :: c280 :: c281 :: c282 :: c283 :: c284 :: c285 :: c286 :: c287 :: c288 :: c289 :: c290 :: c291 :: c292 :: c293 :: c294 :: c295 :: c296 :: c297 :: c298 :: c299 :: c300 :: c301 :: c302 :: c303 :: c304 :: c305 :: c306 :: c307 :: c308 :: c309 :: c310 :: c311 :: c312 :: c313 :: c314 :: c315 :: c316 :: c317 :: c318 :: c319 :: c320 :: c321 :: c322 :: c323 :: c324 :: c325 :: []).toArray, []⟩ V := by
  have HEX := Lib.hid hexit
  have HDS := Lib.hid hds
  have HZS := Lib.hid hzs
  have HYS := Lib.hid hys
  have HORD := Lib.hid hord
  have HGD := Lib.hid hgd
  have HSUM := Lib.hid hsum
  have HM := Lib.hid hm
  clear hexit hds hzs hys hord hgd hsum hm
  conv => arg 2; arg 1; whnf
  go_loopw [19] (fun a wr => ∃ j A : Nat, j ≤ m ∧ j * n = A ∧ a = .int .i64 (A : Int) ∧ Ext V wr) (fun a _ => len + 1 - (intOf a).toNat)
  case atStart => exact ⟨0, 0, Nat.zero_le _, by simp, rfl, Ext.refl _⟩
  case round =>
    obtain ⟨j, A, hj, hjA, rfl, hx⟩ := hrel
    obtain ⟨V5, rfl⟩ : ∃ V5 : World, V5 = wr := ⟨_, rfl⟩
    have HJA := Lib.hid hjA
    have hjA' := hjA
    have HX := Lib.hid hx
    have lp1' := hx.cell kp
    have la1' := hx.cell ka
    have ly1' := hx.cell ky
    have hm' := HM.out
    rcases Nat.lt_or_ge j m with hlt | hge
    · have hAn : A + n ≤ len := by
        have := Nat.mul_le_mul_right n (show j + 1 ≤ m by omega)
        rw [Nat.add_mul, hjA] at this
        omega
      have hA1 : (A : Int) < (len : Int) := by omega
      have wAn : IntKind.i64.wrap ((A : Int) + (n : Int)) = ((A + n : Nat) : Int) := by rw [IntKind.wrap_i64]; omega
      have FZ := Lib.hid (fun u => From_new 0 u (by omega) (by omega))
      have HMM := Lib.hid hm'
      clear hjA hx kp ka ky hm'
      go_wp2_with fail
      refine (FZ.out _).mono ?_
      rintro e v8 ⟨q0, rfl, x8, h8, n8⟩
      obtain ⟨sa0, sk0, sc0, rfl, h8'⟩ := h8.form
      have N8 := n8 _ _ rfl
      have zz : mag 0 = 0 := by decide
      rw [zz] at h8'
      have MP := Lib.hid (And.intro (x8.cell lp1') (And.intro (x8.cell la1') (x8.cell ly1')))
      have X8 := Lib.hid x8
      have H8 := Lib.hid h8'
      have O8 := Lib.hid (h8'.old (Nat.le_refl v8.heap.size))
      have XV8 := Lib.hid (HX.out.tr x8)
      have HD8 := Lib.hid (fun i (hi : i < len) => XV8.out.cell (HDS.out i hi))
      have HZ8 := Lib.hid (fun i (hi : i < len) => XV8.out.cell (HZS.out i hi))
      have HY8 := Lib.hid (fun i (hi : i < len) => XV8.out.cell (HYS.out i hi))
      have HO8 := Lib.hid (HORD.out j hlt)
      rw [hjA'] at HO8
      have HG8 := Lib.hid (fun c (hc : c < n) => HGD.out (A + c) (by omega))
      clear FZ h8 n8 h8' N8 zz x8 lp1' la1' ly1'
      go_wp2_with fail
      refine nm_loop4 v8 _ pp pa py g2 g4 bd od cd len A n ds zs hAn hl MP.out.1 MP.out.2.1 MP.out.2.2 HD8.out HZ8.out HY8.out HO8.out HG8.out (Blk.new v8 _ _) ((H8.out.alloc').mono (show 1 ≤ 6 by omega)) O8.out ((Ext.refl _).alloc _) _ _ _ _ _ _ _ _ _ _ _ _ _ _ _ _ _ _ _ _ _ _ _ _ _ _ _ _ _ _ _ _ _ _ _ _ _ _ _ _ _ _ _ _ _ _ _ _ _ _ _ _ _ _ _ _ _ _ _ _ _ _ _ _ _ _ _ _ _ _ _ _ _ _ _ _ _ _ _ _ _ _ _ _ _ _ _ _ _ _ _ _ _ _ _ _ _ _ _ _ _ _ _ _ _ _ _ _ _ _ _ _ _ _ _ _ _ _ _ _ _ _ _ _ _ _ _ _ _ _ _ _ _ _ _ _ _ _ _ _ _ _ _ _ _ _ _ _ _ _ _ _ _ _ _ _ _ _ _ _ _ _ _ _ _ _ _ _ _ _ _ _ _ _ _ _ _ _ _ _ _ _ _ _ _ _ _ _ _ _ _ _ _ _ _ _ _ _ _ _ _ _ _ _ _ _ _ _ _ _ _ _ _ _ _ _ _ _ _ _ _ _ _ _ _ _ _ _ _ _ _ _ _ _ _ _ _ _ _ _ _ _ _ _ _ _ _ _ _ _ _ _ _ _ _ _ _ _ _ _ _ _ _ _ _ _ _ _ _ _ _ _ _ _ _ _ _ _ _ _ _ _ _ _ _ _ _ _ _ _ _ _ _ _ _ _ _ _ _ _ _ _ _ _ _ _ _ _ _ _ _ _ _ _ _ _ _ _ _ _ ?_
      intros
      rename_i sa sk sc V9 bs hs h9
      have hs2 := hs
      have hss := HSUM.out j hlt
      rw [hjA'] at hss
      obtain ⟨SS, hSS⟩ : ∃ SS, sumN (fun i => sq1 (zs.getD (A + i) 0)) n = SS := ⟨_, rfl⟩
      rw [hSS] at hs2 hss
      obtain ⟨q, s, hs64, hqs, hq2⟩ : ∃ q s : Nat, s < 64 ∧ 2 * f + 2 = 64 * q + s ∧ q ≤ 2 := ⟨((2 * f + 2) / 64).toNat, ((2 * f + 2) % 64).toNat, by omega, by omega, by omega⟩
      have hpw : (n : Int) * (4 * p2 (2 * f)) = (n : Int) * 2 ^ (64 * q + s) := by
        unfold p2
        rw [show 64 * q + s = (2 * f).toNat + 2 by omega, Int.pow_add, show (2 : Int) ^ 2 = 4 by decide, Int.mul_comm 4]
      rw [hpw] at hss
      have ss0 := hs2.nn
      have SQI := Lib.hid (show IntAt V9 (.agg #[.bool false, .slice sa sk sc]) SS 100 from (IntAt.of (by simp; omega) (by rw [show mag SS = SS by rw [mag, if_neg (by omega)]]; exact hs2)).mono (by omega))
      obtain ⟨C, hC⟩ : ∃ C, cmpI SS ((n : Int) * 2 ^ (64 * q + s)) = C := ⟨_, rfl⟩
      have hC0 : ¬ (0 : Int) < C := by
        rw [← hC]
        unfold cmpI
        rw [if_neg (show ¬ (n : Int) * 2 ^ (64 * q + s) < SS by omega)] <;> (split <;> omega)
      have w1 : IntKind.i64.wrap (2 * f) = 2 * f := by rw [IntKind.wrap_i64]; omega
      have w2 : IntKind.i64.wrap (2 * f + 2) = 2 * f + 2 := by rw [IntKind.wrap_i64]; omega
      have FN := Lib.hid (fun u => From_ref (n : Int) u (by omega) (by omega))
      have LF := Lib.hid (fun u v (h : IntAt u v (n : Int) 1) => Left_ref h (by omega) (by omega) hs64 hqs)
      have CM := Lib.hid (fun u v (h : IntAt u v ((n : Int) * 2 ^ (64 * q + s)) (1 + q + 1)) (x : Ext V9 u) => Cmp_ref (SQI.out.ext x) (h.mono (show 1 + q + 1 ≤ 100 by omega)) (by omega))
      rw [hC] at CM
      have k0 : V9.cell? ⟨v8.heap.size, 0, none⟩ = some (.bool false) := bs.cell 0
      have k1 : V9.cell? ⟨v8.heap.size, 1, none⟩ = some (.slice sa sk sc) := bs.cell 1
      have zS : v8.heap.size < V9.heap.size := bs.lt
      have XF := Lib.hid (HX.out.tr (X8.out.tr h9))
      clear hs2 hss hSS hpw ss0 hC SQI hs bs h9 hqs hq2 hs64
      go_wp2_with fail
      go_cut [324] from 180 to 324 (fun s324 wx => s324 = .bool false ∧ Ext V9 wx)
      case first => as_aux_lemma =>
        go_region_held3 (fun w' => w'.cell? ⟨v8.heap.size, 0, none⟩ = some (.bool false) ∧ w'.cell? ⟨v8.heap.size, 1, none⟩ = some (.slice sa sk sc) ∧ v8.heap.size < w'.heap.size ∧ Ext V9 w')
          (refine ⟨?_, ?_, ?_, ?_⟩ <;> first | (simp [go_sem, *]; done) | omega | (simp at z1; omega) | (simp at z2; omega) | (simp at z3; omega) | (simp at z4; omega) | exact (by repeat (first | with_reducible exact Ext.refl _ | with_reducible apply Ext.drew | with_reducible apply Ext.drewN | with_reducible apply Ext.alloc | ((with_reducible refine Ext.setCell ?_ ?_ _); rotate_left; focus (first | (simp; done) | (simp; omega) | omega)) | with_reducible refine Ext.tr ?_ x1 | with_reducible refine Ext.tr ?_ x2 | with_reducible refine Ext.tr ?_ x3 | with_reducible refine Ext.tr ?_ x6 | with_reducible refine Ext.tr ?_ x7 | with_reducible refine Ext.tr ?_ x8 | with_reducible refine Ext.tr ?_ hx | with_reducible assumption)))
          (first
            | ((go_at_call 23; refine (FN.out _).mono ?_; rintro e v1 ⟨q1, rfl, x1, h1⟩; obtain ⟨c1, f1⟩ := x1.rules; have z1 := x1.size); clear FN; have y1 : Ext V9 v1 := (by repeat (first | with_reducible exact Ext.refl _ | with_reducible apply Ext.drew | with_reducible apply Ext.drewN | with_reducible apply Ext.alloc | ((with_reducible refine Ext.setCell ?_ ?_ _); rotate_left; focus (first | (simp; done) | (simp; omega) | omega)) | with_reducible refine Ext.tr ?_ x1 | with_reducible refine Ext.tr ?_ x2 | with_reducible refine Ext.tr ?_ x3 | with_reducible refine Ext.tr ?_ x6 | with_reducible refine Ext.tr ?_ x7 | with_reducible refine Ext.tr ?_ x8 | with_reducible refine Ext.tr ?_ hx | with_reducible assumption)); have n0' := y1.cell k0; have n1' := y1.cell k1; have zm : v8.heap.size < v1.heap.size := cell_lt n0')
            | (go_at_call 26; refine (LF.out _ _ (h1.ext (by repeat (first | with_reducible exact Ext.refl _ | with_reducible apply Ext.drew | with_reducible apply Ext.drewN | with_reducible apply Ext.alloc | ((with_reducible refine Ext.setCell ?_ ?_ _); rotate_left; focus (first | (simp; done) | (simp; omega) | omega)) | with_reducible refine Ext.tr ?_ x1 | with_reducible refine Ext.tr ?_ x2 | with_reducible refine Ext.tr ?_ x3 | with_reducible refine Ext.tr ?_ x6 | with_reducible refine Ext.tr ?_ x7 | with_reducible refine Ext.tr ?_ x8 | with_reducible refine Ext.tr ?_ hx | with_reducible assumption)))).mono ?_; rintro e v2 ⟨q2, rfl, x2, h2, -⟩; obtain ⟨c2, f2⟩ := x2.rules; have z2 := x2.size; clear LF; have y2 : Ext V9 v2 := (by repeat (first | with_reducible exact Ext.refl _ | with_reducible apply Ext.drew | with_reducible apply Ext.drewN | with_reducible apply Ext.alloc | ((with_reducible refine Ext.setCell ?_ ?_ _); rotate_left; focus (first | (simp; done) | (simp; omega) | omega)) | with_reducible refine Ext.tr ?_ x1 | with_reducible refine Ext.tr ?_ x2 | with_reducible refine Ext.tr ?_ x3 | with_reducible refine Ext.tr ?_ x6 | with_reducible refine Ext.tr ?_ x7 | with_reducible refine Ext.tr ?_ x8 | with_reducible refine Ext.tr ?_ hx | with_reducible assumption)); have m0' := y2.cell k0; have m1' := y2.cell k1; have zn : v8.heap.size < v2.heap.size := cell_lt m0')
            | ((go_at_call 30; refine (CM.out _ _ (h2.ext (by repeat (first | with_reducible exact Ext.refl _ | with_reducible apply Ext.drew | with_reducible apply Ext.drewN | with_reducible apply Ext.alloc | ((with_reducible refine Ext.setCell ?_ ?_ _); rotate_left; focus (first | (simp; done) | (simp; omega) | omega)) | with_reducible refine Ext.tr ?_ x1 | with_reducible refine Ext.tr ?_ x2 | with_reducible refine Ext.tr ?_ x3 | with_reducible refine Ext.tr ?_ x6 | with_reducible refine Ext.tr ?_ x7 | with_reducible refine Ext.tr ?_ x8 | with_reducible refine Ext.tr ?_ hx | with_reducible assumption))) (by repeat (first | with_reducible exact Ext.refl _ | with_reducible apply Ext.drew | with_reducible apply Ext.drewN | with_reducible apply Ext.alloc | ((with_reducible refine Ext.setCell ?_ ?_ _); rotate_left; focus (first | (simp; done) | (simp; omega) | omega)) | with_reducible refine Ext.tr ?_ x1 | with_reducible refine Ext.tr ?_ x2 | with_reducible refine Ext.tr ?_ x3 | with_reducible refine Ext.tr ?_ x6 | with_reducible refine Ext.tr ?_ x7 | with_reducible refine Ext.tr ?_ x8 | with_reducible refine Ext.tr ?_ hx | with_reducible assumption))).mono ?_; rintro e v3 ⟨rfl, x3⟩; obtain ⟨c3, f3⟩ := x3.rules; have z3 := x3.size); clear CM; have y3 : Ext V9 v3 := (by repeat (first | with_reducible exact Ext.refl _ | with_reducible apply Ext.drew | with_reducible apply Ext.drewN | with_reducible apply Ext.alloc | ((with_reducible refine Ext.setCell ?_ ?_ _); rotate_left; focus (first | (simp; done) | (simp; omega) | omega)) | with_reducible refine Ext.tr ?_ x1 | with_reducible refine Ext.tr ?_ x2 | with_reducible refine Ext.tr ?_ x3 | with_reducible refine Ext.tr ?_ x6 | with_reducible refine Ext.tr ?_ x7 | with_reducible refine Ext.tr ?_ x8 | with_reducible refine Ext.tr ?_ hx | with_reducible assumption)); have p0' := y3.cell k0; have p1' := y3.cell k1; have zp : v8.heap.size < v3.heap.size := cell_lt p0'))
        all_goals
          go_wp2_with fail
          go_meet
          exact ⟨by simp [hC0], (by repeat (first | with_reducible exact Ext.refl _ | with_reducible apply Ext.drew | with_reducible apply Ext.drewN | with_reducible apply Ext.alloc | ((with_reducible refine Ext.setCell ?_ ?_ _); rotate_left; focus (first | (simp; done) | (simp; omega) | omega)) | with_reducible refine Ext.tr ?_ x1 | with_reducible refine Ext.tr ?_ x2 | with_reducible refine Ext.tr ?_ x3 | with_reducible refine Ext.tr ?_ x6 | with_reducible refine Ext.tr ?_ x7 | with_reducible refine Ext.tr ?_ x8 | with_reducible refine Ext.tr ?_ hx | with_reducible assumption))⟩
      case rest =>
        obtain ⟨rfl, xr⟩ := hcut
        have XG := Lib.hid (XF.out.tr xr)
        have NXT := Lib.hid (show (j + 1) * n = A + n by rw [Nat.add_mul, HJA.out]; omega)
        clear k0 k1 zS xr XF
        go_wp2_with fail
        go_roundw
        case rel => exact ⟨j + 1, A + n, by omega, NXT.out, by simp, XG.out⟩
        case measure => simp [intOf]; omega
    · have hAe : A = len := by
        have e : j = m := by omega
        rw [← hjA, e, hm']
      subst hAe
      clear hm' hjA hjA' lp1' ly1' kp ka ky HDS HZS HYS HORD HGD HSUM HM
      go_wp2_with fail
      exact HEX.out _ _ _ _ _ _ _ _ _ _ _ _ _ _ _ _ _ _ _ _ _ _ _ _ _ _ _ _ _ _ _ _ _ _ _ _ _ _ _ _ _ _ _ _ _ _ _ _ _ _ _ _ _ _ _ _ _ _ _ _ _ _ _ _ _ _ _ _ _ _ _ _ _ _ _ _ _ _ _ _ _ _ _ _ _ _ _ _ _ _ _ _ _ _ _ _ _ _ _ _ _ _ _ _ _ _ _ _ _ _ _ _ _ _ _ _ _ _ _ _ _ _ _ _ _ _ _ _ _ _ _ _ _ _ _ _ _ _ _ _ _ _ _ _ _ _ _ _ _ _ _ _ _ hx
end Go.Proofs.Ytjmecongccjcgaa
