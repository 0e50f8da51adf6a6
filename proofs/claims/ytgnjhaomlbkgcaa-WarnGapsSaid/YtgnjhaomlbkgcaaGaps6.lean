/- The last loop of WarnGaps: rows that are tried. Printed by my gen_gaps6.py. -/
import Derived.Test.YtgnjhaomlbkgcaaWMade
import Derived.Test.YtgnjhaomlbkgcaaWGapsP
import Derived.Test.YtgnjhaomlbkgcaaSum
import Derived.Test.YtgnjhaomlbkgcaaGapsT
namespace Go.Proofs.Ytgnjhaomlbkgcaa
open Go Go.RowKit Go.Shelf
set_option linter.unusedVariables false
set_option linter.unusedSimpArgs false

/-- The outermost loops of a text, in order. -/
def topLoops : Code → List Code
  | .loop c => [c]
  | .seq a b => topLoops a ++ topLoops b
  | .block _ c => topLoops c
  | .scope c => topLoops c
  | .cond _ a b => topLoops a ++ topLoops b
  | _ => []
noncomputable def gapsBody6 : Code := ((Try.f5.body.map topLoops).getD []).getD 2 .skip

set_option maxRecDepth 1000000 in
set_option maxHeartbeats 8000000 in
theorem gaps_loop6 {Bc D2 Bg cL : Nat} {AL : Option Addr} {c : Cs} {real : List Int} {a : Nat} {A1 A2 : Option Addr} {c1 c2 : Nat} {W3 W8 : World}
    (hsz : c.sized) (h0 : checkC c = 0) (hN : c.ev = (a : Int)) (G0 : GapsOK c real) (hN7 : a ≤ 7) (hN2 : 2 ≤ a)
    (fc3 : ∀ w', Ext W3 w' → w'.cell? ⟨Bc, 0, none⟩ = some (.int .i64 (a : Int)) ∧ w'.cell? ⟨Bc, 1, none⟩ = some (.slice A1 c.bs.length c1) ∧ w'.cell? ⟨Bc, 2, none⟩ = some (.int .i64 c.wi) ∧ w'.cell? ⟨Bc, 3, none⟩ = some (.slice A2 c.cl.length c2))
    (hc3 : CsR W3 (.agg #[.int .i64 (a : Int), .slice A1 c.bs.length c1, .int .i64 c.wi, .slice A2 c.cl.length c2]) c)
    (fd : ∀ w', Bel D2 W8 w' → Ext W3 w' ∧ Bounds w' AL c.all ∧ ∀ x y : Nat, x < a → y < a → w'.cell? ⟨Bg, x * 8 + y, none⟩ = some (.int .i64 (gst c x y)))
    (hh8 : HeapR W8 D2) (hD8 : D2 < W8.heap.size)
    (Q0 : Exit → Act → World → Prop) (c0 c1 c2 c3 c4 c6 c9 c11 c12 c13 c14 c15 c16 c17 c18 c19 c20 c21 c22 c23 c24 c25 c26 c27 c28 c29 c30 c31 c32 c33 c34 c35 c36 c37 c38 c39 c40 c41 c42 c43 c44 c45 c46 c47 c48 c49 c50 c51 c52 c53 c54 c55 c56 c57 c58 c59 c60 c61 c62 c63 c64 c65 c66 c67 c68 c69 c70 c71 c72 c73 c74 c75 c76 c77 c78 c79 c80 c81 c82 c83 c84 c85 c86 c87 c88 c89 c90 c91 c92 c93 c94 c95 c96 c97 c98 c99 c100 c101 c102 c103 c104 c105 c106 c107 c108 c109 c110 c111 c112 c113 c114 c115 c116 c117 c118 c119 c120 c121 c122 c123 c124 c125 c126 c127 c128 c129 c130 c131 c132 c133 c134 c135 c136 c137 c138 c139 c140 c141 c142 c143 c144 c145 c146 c147 c148 c149 c150 c151 c152 c153 c154 c155 c156 c157 c158 c159 c160 c161 c162 c163 c164 c165 c166 c167 c168 c169 c170 c171 c172 c173 c174 c175 c176 c177 c178 c179 c180 c181 c182 c183 c184 c185 c186 c187 c188 c189 c190 c191 c192 c193 c194 c195 c196 c197 c198 c199 c200 c201 c202 c203 c204 c205 c206 c207 c208 c209 c210 c211 c212 c213 c214 c215 c216 c217 c218 c219 c220 c221 c222 c223 c224 c225 c226 c227 c228 c229 c230 c231 c232 c233 c234 c235 c236 c237 c238 c239 c240 c241 c242 c243 c244 c246 c247 c248 c249 c250 c251 c252 c253 c254 c255 c256 c257 c258 c259 c260 c261 c262 c263 c264 c265 c266 c267 c268 c269 c270 c271 c272 c273 c274 c275 c276 c277 c278 c279 c280 c281 c282 c283 c284 c285 c286 c287 c288 c289 c290 c291 c292 c293 c294 c295 c296 c297 c298 c299 c300 c301 c302 c303 c304 c305 c306 c307 c308 c309 c310 c311 c312 c313 c314 c315 c316 c317 c318 c319 c320 c321 c322 c323 c324 c325 c326 c327 c328 c329 c330 c331 c332 c333 : Value)
    (hexit : ∀ (u4 u21 u22 u23 u24 u25 u26 u27 u28 u29 u245 u246 u247 u248 u249 u250 u251 u252 u253 u254 u255 u256 u257 u258 u259 u260 u261 u262 u263 u264 u265 u266 u267 u268 u269 u270 u271 u272 u273 u274 u275 u276 u277 u278 u279 u280 u281 u282 u283 u284 u285 u286 u287 u288 u289 u290 u291 u292 u293 u294 u295 u296 u297 u298 u299 u300 u301 u302 u303 u304 u305 u306 u307 u308 u309 u310 u311 u312 u313 u314 u315 u316 u317 u318 u319 u320 u321 u322 u323 u324 u325 u326 u327 u328 u329 u330 u331 u332 : Value) (w' : World), Bel D2 W8 w' → HeapR w' D2 → Q0 (.exit 10) ⟨List.toArray (c0 :: c1 :: c2 :: c3 :: u4 :: .pointer (some ⟨Bc, 0, none⟩) :: c6 :: .pointer (some ⟨D2, 0, none⟩) :: .slice AL c.all.length cL :: c9 :: .pointer (some ⟨Bg, 0, none⟩) :: c11 :: c12 :: c13 :: c14 :: c15 :: c16 :: c17 :: c18 :: c19 :: c20 :: u21 :: u22 :: u23 :: u24 :: u25 :: u26 :: u27 :: u28 :: u29 :: c30 :: c31 :: c32 :: c33 :: c34 :: c35 :: c36 :: c37 :: c38 :: c39 :: c40 :: c41 :: c42 :: c43 :: c44 :: c45 :: c46 :: c47 :: c48 :: c49 :: c50 :: c51 :: c52 :: c53 :: c54 :: c55 :: c56 :: c57 :: c58 :: c59 :: c60 :: c61 :: c62 :: c63 :: c64 :: c65 :: c66 :: c67 :: c68 :: c69 :: c70 :: c71 :: c72 :: c73 :: c74 :: c75 :: c76 :: c77 :: c78 :: c79 :: c80 :: c81 :: c82 :: c83 :: c84 :: c85 :: c86 :: c87 :: c88 :: c89 :: c90 :: c91 :: c92 :: c93 :: c94 :: c95 :: c96 :: c97 :: c98 :: c99 :: c100 :: c101 :: c102 :: c103 :: c104 :: c105 :: c106 :: c107 :: c108 :: c109 :: c110 :: c111 :: c112 :: c113 :: c114 :: c115 :: c116 :: c117 :: c118 :: c119 :: c120 :: c121 :: c122 :: c123 :: c124 :: c125 :: c126 :: c127 :: c128 :: c129 :: c130 :: c131 :: c132 :: c133 :: c134 :: c135 :: c136 :: c137 :: c138 :: c139 :: c140 :: c141 :: c142 :: c143 :: c144 :: c145 :: c146 :: c147 :: c148 :: c149 :: c150 :: c151 :: c152 :: c153 :: c154 :: c155 :: c156 :: c157 :: c158 :: c159 :: c160 :: c161 :: c162 :: c163 :: c164 :: c165 :: c166 :: c167 :: c168 :: c169 :: c170 :: c171 :: c172 :: c173 :: c174 :: c175 :: c176 :: c177 :: c178 :: c179 :: c180 :: c181 :: c182 :: c183 :: c184 :: c185 :: c186 :: c187 :: c188 :: c189 :: c190 :: c191 :: c192 :: c193 :: c194 :: c195 :: c196 :: c197 :: c198 :: c199 :: c200 :: c201 :: c202 :: c203 :: c204 :: c205 :: c206 :: c207 :: c208 :: c209 :: c210 :: c211 :: c212 :: c213 :: c214 :: c215 :: c216 :: c217 :: c218 :: c219 :: c220 :: c221 :: c222 :: c223 :: c224 :: c225 :: c226 :: c227 :: c228 :: c229 :: c230 :: c231 :: c232 :: c233 :: c234 :: c235 :: c236 :: c237 :: c238 :: c239 :: c240 :: c241 :: c242 :: c243 :: c244 :: u245 :: u246 :: u247 :: u248 :: u249 :: u250 :: u251 :: u252 :: u253 :: u254 :: u255 :: u256 :: u257 :: u258 :: u259 :: u260 :: u261 :: u262 :: u263 :: u264 :: u265 :: u266 :: u267 :: u268 :: u269 :: u270 :: u271 :: u272 :: u273 :: u274 :: u275 :: u276 :: u277 :: u278 :: u279 :: u280 :: u281 :: u282 :: u283 :: u284 :: u285 :: u286 :: u287 :: u288 :: u289 :: u290 :: u291 :: u292 :: u293 :: u294 :: u295 :: u296 :: u297 :: u298 :: u299 :: u300 :: u301 :: u302 :: u303 :: u304 :: u305 :: u306 :: u307 :: u308 :: u309 :: u310 :: u311 :: u312 :: u313 :: u314 :: u315 :: u316 :: u317 :: u318 :: u319 :: u320 :: u321 :: u322 :: u323 :: u324 :: u325 :: u326 :: u327 :: u328 :: u329 :: u330 :: u331 :: u332 :: c333 :: []), []⟩ w') :
    Code.wp Try.prog (Code.loop gapsBody6) Q0 ⟨List.toArray (c0 :: c1 :: c2 :: c3 :: c4 :: .pointer (some ⟨Bc, 0, none⟩) :: c6 :: .pointer (some ⟨D2, 0, none⟩) :: .slice AL c.all.length cL :: c9 :: .pointer (some ⟨Bg, 0, none⟩) :: c11 :: c12 :: c13 :: c14 :: c15 :: c16 :: c17 :: c18 :: c19 :: c20 :: c21 :: c22 :: c23 :: c24 :: c25 :: c26 :: c27 :: c28 :: c29 :: c30 :: c31 :: c32 :: c33 :: c34 :: c35 :: c36 :: c37 :: c38 :: c39 :: c40 :: c41 :: c42 :: c43 :: c44 :: c45 :: c46 :: c47 :: c48 :: c49 :: c50 :: c51 :: c52 :: c53 :: c54 :: c55 :: c56 :: c57 :: c58 :: c59 :: c60 :: c61 :: c62 :: c63 :: c64 :: c65 :: c66 :: c67 :: c68 :: c69 :: c70 :: c71 :: c72 :: c73 :: c74 :: c75 :: c76 :: c77 :: c78 :: c79 :: c80 :: c81 :: c82 :: c83 :: c84 :: c85 :: c86 :: c87 :: c88 :: c89 :: c90 :: c91 :: c92 :: c93 :: c94 :: c95 :: c96 :: c97 :: c98 :: c99 :: c100 :: c101 :: c102 :: c103 :: c104 :: c105 :: c106 :: c107 :: c108 :: c109 :: c110 :: c111 :: c112 :: c113 :: c114 :: c115 :: c116 :: c117 :: c118 :: c119 :: c120 :: c121 :: c122 :: c123 :: c124 :: c125 :: c126 :: c127 :: c128 :: c129 :: c130 :: c131 :: c132 :: c133 :: c134 :: c135 :: c136 :: c137 :: c138 :: c139 :: c140 :: c141 :: c142 :: c143 :: c144 :: c145 :: c146 :: c147 :: c148 :: c149 :: c150 :: c151 :: c152 :: c153 :: c154 :: c155 :: c156 :: c157 :: c158 :: c159 :: c160 :: c161 :: c162 :: c163 :: c164 :: c165 :: c166 :: c167 :: c168 :: c169 :: c170 :: c171 :: c172 :: c173 :: c174 :: c175 :: c176 :: c177 :: c178 :: c179 :: c180 :: c181 :: c182 :: c183 :: c184 :: c185 :: c186 :: c187 :: c188 :: c189 :: c190 :: c191 :: c192 :: c193 :: c194 :: c195 :: c196 :: c197 :: c198 :: c199 :: c200 :: c201 :: c202 :: c203 :: c204 :: c205 :: c206 :: c207 :: c208 :: c209 :: c210 :: c211 :: c212 :: c213 :: c214 :: c215 :: c216 :: c217 :: c218 :: c219 :: c220 :: c221 :: c222 :: c223 :: c224 :: c225 :: c226 :: c227 :: c228 :: c229 :: c230 :: c231 :: c232 :: c233 :: c234 :: c235 :: c236 :: c237 :: c238 :: c239 :: c240 :: c241 :: c242 :: c243 :: c244 :: .int .i64 0 :: c246 :: c247 :: c248 :: c249 :: c250 :: c251 :: c252 :: c253 :: c254 :: c255 :: c256 :: c257 :: c258 :: c259 :: c260 :: c261 :: c262 :: c263 :: c264 :: c265 :: c266 :: c267 :: c268 :: c269 :: c270 :: c271 :: c272 :: c273 :: c274 :: c275 :: c276 :: c277 :: c278 :: c279 :: c280 :: c281 :: c282 :: c283 :: c284 :: c285 :: c286 :: c287 :: c288 :: c289 :: c290 :: c291 :: c292 :: c293 :: c294 :: c295 :: c296 :: c297 :: c298 :: c299 :: c300 :: c301 :: c302 :: c303 :: c304 :: c305 :: c306 :: c307 :: c308 :: c309 :: c310 :: c311 :: c312 :: c313 :: c314 :: c315 :: c316 :: c317 :: c318 :: c319 :: c320 :: c321 :: c322 :: c323 :: c324 :: c325 :: c326 :: c327 :: c328 :: c329 :: c330 :: c331 :: c332 :: c333 :: []), []⟩ W8 := by
  have HEX := hid hexit
  have HSZ := hid hsz
  have H0 := hid h0
  have HN := hid hN
  have G := hid G0
  have FC3 := hid fc3
  have HC3 := hid hc3
  have FD := hid fd
  have HLL : Hid (c.all.length ≤ 52) := checkC_52 H0.out
  have HBO := hid (checkC_bd H0.out)
  have HEV := hid (checkC_ok H0.out).2.2.1
  clear hexit hsz h0 hN G0 fc3 hc3 fd
  conv => arg 2; arg 1; whnf
  go_loopw [245] (fun i wr => ∃ z : Nat, i = .int .i64 (z : Int) ∧ z ≤ 6 ∧ Bel D2 W8 wr ∧ HeapR wr D2) (fun i _ => (6 - (intOf i).toNat))
  case atStart => exact ⟨0, rfl, by omega, Bel.refl _ _, hh8⟩
  case round =>
    obtain ⟨z, rfl, hz, hb, hh⟩ := hrel
    by_cases hlz : z < 6
    · have hlz' : (z : Int) < 6 := by omega
      obtain ⟨q0, -⟩ := FC3.out wr (FD.out wr hb).1
      have hw1 : IntKind.i64.wrap ((a : Int) - 1) = (a : Int) - 1 := IntWalk.i64_in _ ⟨by omega, by omega⟩
      go_wp2_with fail
      refine (upto_any D2 ((a : Int) - 1) wr hh (by omega) (by omega)).mono ?_
      rintro e w9 ⟨p, rfl, p0, p1, hb9, hh9⟩
      obtain ⟨pn, rfl⟩ : ∃ k : Nat, p = k := ⟨p.toNat, by omega⟩
      have hpn : pn < a := by omega
      have hb10 := hb.trans hb9
      clear q0 hb hb9 hh p0 p1 hw1
      go_wp2_with fail
      refine (upto_any D2 6 w9 hh9 (by omega) (by omega)).mono ?_
      rintro e w10 ⟨m, rfl, m0, m1, hb11, hh11⟩
      have hb12 := hb10.trans hb11
      have hm6 : m ≤ 6 := by omega
      clear hb10 hb11 hh9 m1
      go_wp2
      go_loopw [22, 23, 255] (fun at_ rw_ i wr => ∃ (k q : Nat) (row : List Int) (A5 : Option Addr) (c5 : Nat) (s : Int), at_ = .int .i64 (q : Int) ∧ rw_ = .slice A5 row.length c5 ∧ i = .int .i64 (k : Int) ∧ (k : Int) ≤ m ∧ q < a ∧ row.length ≤ c.all.length ∧ Hid (∀ i ∈ row, 0 ≤ i ∧ i < (c.all.length : Int)) ∧ Hid (alongC c.all (pn : Int) 0 row = some ((q : Int), s)) ∧ Hid (wr.ownsRow W8.heap.size 3 1 (.slice A5 row.length c5) row.length (row.map (.int .i64))) ∧ Bel D2 W8 wr ∧ HeapR wr D2) (fun _ _ i _ => (m - intOf i).toNat)
      case atStart => exact ⟨0, pn, [], none, 0, 0, rfl, rfl, rfl, by omega, hpn, by simp, fun _ h => (by cases h), rfl, own_nil _ _ _ _, hb12, hh11⟩
      case round =>
        obtain ⟨k, q, row, A5, c5, s, rfl, rfl, rfl, hk, hq, hrl5, HIN, HAL, HOR, hb, hh⟩ := hrel
        by_cases hlk : (k : Int) < m
        · obtain ⟨wo, rfl⟩ : ∃ wo : World, wo = wr := ⟨_, rfl⟩
          go_wp2
          go_loopw [22, 23, 259] (fun at_ rw_ i wr => ∃ j : Nat, at_ = .int .i64 (q : Int) ∧ rw_ = .slice A5 row.length c5 ∧ i = .int .i64 (j : Int) ∧ j ≤ c.all.length ∧ Hid (wr.ownsRow W8.heap.size 3 1 (.slice A5 row.length c5) row.length (row.map (.int .i64))) ∧ Bel D2 W8 wr ∧ HeapR wr D2) (fun _ _ i _ => (c.all.length - (intOf i).toNat))
          case atStart => exact ⟨0, rfl, rfl, rfl, by omega, HOR, hb, hh⟩
          case round =>
            obtain ⟨j, rfl, rfl, rfl, hj, HOR, hb, hh⟩ := hrel
            by_cases hlj : j < c.all.length
            · have hlj' : (j : Int) < (c.all.length : Int) := by omega
              have hll := HLL.out
              go_wp2_with fail
              refine (upto_any D2 (c.all.length : Int) wr hh (by omega) (by omega)).mono ?_
              rintro e w11 ⟨r, rfl, r0, r1, hb9, hh9⟩
              have HOR9 := hid (hb9.own HOR.out (fun g hg => by have := (HOR.out.lt g hg).1; omega))
              have hb10 := hb.trans hb9
              have hr1 : r ≤ (c.all.length : Int) := by omega
              have hsum : IntKind.i64.wrap ((j : Int) + r) = (j : Int) + r := IntWalk.i64_in _ ⟨by omega, by omega⟩
              have hrem : ((j : Int) + r).tmod (c.all.length : Int) = ((j : Int) + r) % (c.all.length : Int) := Int.tmod_eq_emod_of_nonneg (by omega)
              have hl0 : ¬ (c.all.length : Int) = 0 := by omega
              have hm0 := Int.emod_nonneg ((j : Int) + r) hl0
              have hm9 := Int.emod_lt_of_pos ((j : Int) + r) (show 0 < (c.all.length : Int) by omega)
              obtain ⟨iN, hiN⟩ : ∃ k : Nat, ((j : Int) + r) % (c.all.length : Int) = k := ⟨(((j : Int) + r) % (c.all.length : Int)).toNat, by omega⟩
              rw [hiN] at hrem hm0 hm9
              have hil : iN < c.all.length := by omega
              obtain ⟨x, hx⟩ := get_of_lt c.all iN hil
              obtain ⟨b1, off1, hA1, e0, -, -⟩ := (FD.out W8 (Bel.refl _ _)).2.1.at_ hx
              subst hA1
              have hb1 : b1 < W8.heap.size := World.block_lt_of_cell? W8 _ e0
              obtain ⟨b1', off1', hA1', d0, d1, -⟩ := (FD.out w11 hb10).2.1.at_ hx
              cases hA1'
              have hok := HBO.out x (mem_of_get hx)
              have hev := evOK_get HEV.out (mem_of_get hx)
              rw [HN.out] at hev
              obtain ⟨tn, htn⟩ : ∃ k : Nat, x.t = k := ⟨x.t.toNat, by omega⟩
              have htna : tn < a := by omega
              rw [htn] at d1
              have HXG := hid hx
              have HTN := hid htn
              clear hiN r0 r1 hb hb9 hh HOR hx e0 hok hev htn
              by_cases hf : x.f = (q : Int)
              · rw [hf] at d0
                by_cases hrw : row.length < c.all.length
                · have hrw' : (row.length : Int) < (c.all.length : Int) := by omega
                  have hs := along_snoc (i := (iN : Int)) HAL.out (by rw [Int.toNat_natCast]; exact HXG.out) hf
                  rw [HTN.out] at hs
                  have HS := hid hs
                  have HIN2 : Hid (∀ i ∈ row ++ [(iN : Int)], 0 ≤ i ∧ i < (c.all.length : Int)) := fun i hi => by
                    rcases List.mem_append.1 hi with h | h
                    · exact HIN.out i h
                    · simp at h; subst h; omega
                  have FX : Hid (∀ w', Below W8.heap.size w11 w' → w'.cell? ⟨b1, off1 + iN * 3 + 1, none⟩ = some (.int .i64 (tn : Int))) := fun w' h => (Below.cell h (by exact hb1)).trans d1
                  have hsz11 : W8.heap.size ≤ w11.heap.size := hb10.size
                  clear hs hf
                  go_wp2
                  refine wp_region_opens (Laid3 W8.heap.size 3 row.length (row.map (.int .i64)) (.int .i64 (iN : Int))) (fun w' => W8.heap.size ≤ w'.heap.size ∧ Below W8.heap.size w11 w' ∧ w'.ownsRow W8.heap.size 3 1 (.slice A5 row.length c5) row.length (row.map (.int .i64))) (fun
                    | 2 => some (fun v W => ∃ b, v = .slice (some ⟨b, 0, none⟩) 1 1 ∧ Rd0 W b [.int .i64 (iN : Int)])
                    | 3 => some (fun v W => ∃ A9 c9, v = .slice A9 (row.length + 1) c9 ∧ W.ownsRow W8.heap.size 3 1 (.slice A9 (row.length + 1) c9) (row.length + 1) (row.map (.int .i64) ++ [.int .i64 (iN : Int)]))
                    | _ => none) (by kernel_rfl) (by kernel_rfl) (fun _ _ h k => ⟨Nat.le_trans h.1 k.1.1.size, h.2.1.trans k.1.1, k.1.2.1 _ h.2.2⟩) ?hTa ⟨hsz11, (Below.refl _ w11).drew, HOR9.out⟩ ?_
                  case hTa =>
                    intro i R hR
                    match i, hR with
                    | 2, hR => cases hR; exact fun _ _ _ ⟨b, e1, e2⟩ k => ⟨b, e1, k.1.2.2.2 _ e2⟩
                    | 3, hR => cases hR; exact fun _ _ _ ⟨A9, c9, e1, e2⟩ k => ⟨A9, c9, e1, k.2 _ e2⟩
                  refine wpM_val ?ua0 rfl rfl (Laid3.refl) (fun w' hD => ?ha0) ?na0
                  case ha0 =>
                    have d0 := FX.out w' hD.1.2.1
                    go_simp; rfl
                  simp only [Act.put, List.setIfInBounds_toArray, List.set_cons_succ, List.set_cons_zero, Nat.reduceAdd]
                  refine wpM_val ?ua1 rfl rfl (Laid3.refl) (fun w' hD => ?ha1) ?na1
                  case ha1 =>
                    have d0 := FX.out w' hD.1.2.1
                    go_simp; rfl
                  simp only [Act.put, List.setIfInBounds_toArray, List.set_cons_succ, List.set_cons_zero, Nat.reduceAdd]
                  refine wpM_op _ rfl rfl (opens_val (fun w' hD => ?ha2)) (fun v2 hv2 => ?na2)
                  case ha2 =>
                    have hsz2 := hD.1.1
                    refine ⟨.slice (some ⟨w'.heap.size, 0, none⟩) 1 1, w'.alloc (.cells #[.int .i64 (iN : Int)] 3), ?_, Laid3.of_ext (Ext.alloc (Ext.refl _) _) hsz2, _, rfl, ?_⟩
                    · go_simp
                    · intro j u hu
                      match j with
                      | 0 => cases hu; simp [go_sem]
                      | j + 1 => simp at hu
                  obtain ⟨_, _, _, b4, rfl, _⟩ := hv2
                  simp only [Act.put, List.setIfInBounds_toArray, List.set_cons_succ, List.set_cons_zero, Nat.reduceAdd]
                  refine wpM_op _ rfl rfl (opens_val (fun w' hD => ?ha3)) (fun v3 hv3 => ?na3)
                  case ha3 =>
                    have hsz2 := hD.1.1
                    obtain ⟨_, b3, e4, hb4⟩ := hD.get 2 (by first | kernel_rfl | simp [Region.binds])
                    cases e4
                    obtain ⟨A8, c8, w8, hrun, ho8, hk8⟩ := run_append_keep (P := Try.prog) w' 27 27 3 1 8 elem_int W8.heap.size _ row.length _ hD.1.2.2 ⟨b4, 0, none⟩ 1 1 [.int .i64 (iN : Int)] rfl (fun j u hu => by rw [Addr.add_lit, Nat.zero_add]; exact hb4 j u hu) (by simp [Value.oneCell']) (by omega) hsz2 (by omega)
                    refine ⟨.slice A8 (row.length + 1) c8, w8, exec_append w' _ (.tmp 285) (.tmp 287) 27 ?_ _ _ ?_ ?_ _ _ hrun, ?_, A8, c8, rfl, ho8⟩
                    · rfl
                    · rfl
                    · rfl
                    · rcases hk8 with h | ⟨g, cap, e6, e7, rfl, _, hg⟩
                      · exact Laid3.of_ext h hsz2
                      · have hO := hD.1.2.2
                        rw [e6] at hO
                        rw [e7] at ho8
                        exact Laid3.of_grown (by simp) hO ho8 hg
                  obtain ⟨_, _, _, A8, c8, rfl, _⟩ := hv3
                  simp only [Act.put, List.setIfInBounds_toArray, List.set_cons_succ, List.set_cons_zero, Nat.reduceAdd]
                  refine wpM_val ?ua4 rfl rfl (Laid3.refl) (fun w' hD => ?ha4) ?na4
                  case ha4 =>
                    have d0 := FX.out w' hD.1.2.1
                    go_simp; rfl
                  simp only [Act.put, List.setIfInBounds_toArray, List.set_cons_succ, List.set_cons_zero, Nat.reduceAdd]
                  refine wpM_val ?ua5 rfl rfl (Laid3.refl) (fun w' hD => ?ha5) ?na5
                  case ha5 =>
                    have d0 := FX.out w' hD.1.2.1
                    go_simp; rfl
                  simp only [Act.put, List.setIfInBounds_toArray, List.set_cons_succ, List.set_cons_zero, Nat.reduceAdd]
                  refine wpM_val ?ua6 rfl rfl (Laid3.refl) (fun w' hD => ?ha6) ?na6
                  case ha6 =>
                    have d0 := FX.out w' hD.1.2.1
                    go_simp; rfl
                  simp only [Act.put, List.setIfInBounds_toArray, List.set_cons_succ, List.set_cons_zero, Nat.reduceAdd]
                  refine wpM_val ?ua7 rfl rfl (Laid3.refl) (fun w' hD => ?ha7) ?na7
                  case ha7 =>
                    have d0 := FX.out w' hD.1.2.1
                    go_simp; rfl
                  simp only [Act.put, List.setIfInBounds_toArray, List.set_cons_succ, List.set_cons_zero, Nat.reduceAdd]
                  refine wpM_val ?ua8 rfl rfl (Laid3.refl) (fun w' hD => ?ha8) ?na8
                  case ha8 =>
                    have d0 := FX.out w' hD.1.2.1
                    go_simp; rfl
                  simp only [Act.put, List.setIfInBounds_toArray, List.set_cons_succ, List.set_cons_zero, Nat.reduceAdd]
                  refine wpM_val ?ua9 rfl rfl (Laid3.refl) (fun w' hD => ?ha9) ?na9
                  case ha9 =>
                    have d0 := FX.out w' hD.1.2.1
                    go_simp; rfl
                  simp only [Act.put, List.setIfInBounds_toArray, List.set_cons_succ, List.set_cons_zero, Nat.reduceAdd]
                  refine wpM_val ?ua10 rfl rfl (Laid3.refl) (fun w' hD => ?ha10) ?na10
                  case ha10 =>
                    have d0 := FX.out w' hD.1.2.1
                    go_simp; rfl
                  simp only [Act.put, List.setIfInBounds_toArray, List.set_cons_succ, List.set_cons_zero, Nat.reduceAdd]
                  refine wpM_nil ?_
                  intro w9 hw9 hF9
                  obtain ⟨-, A9, c9, e9, ho9⟩ := hF9 3
                  cases e9
                  have hb13 : Bel D2 W8 w9 := ⟨hb10.1.trans (Below.mono hw9.2.1 (Nat.zero_le _)), fun i hi hD => (Below.block hw9.2.1 i (by omega)).trans (hb10.2 i hi hD)⟩
                  have hh13 : HeapR w9 D2 := hh9.below hw9.2.1 hD8
                  have HO9 : Hid (w9.ownsRow W8.heap.size 3 1 (.slice A8 (row ++ [(iN : Int)]).length c8) (row ++ [(iN : Int)]).length ((row ++ [(iN : Int)]).map (.int .i64))) := by
                    unfold Hid; simpa using ho9
                  clear hF9 FX ho9 hw9 hh9 hb10 HOR9
                  go_wp2
                  go_roundw
                  case rel => exact ⟨k + 1, tn, row ++ [(iN : Int)], A8, c8, s + x.m, rfl, by simp, by go_num, by omega, htna, by simp; omega, HIN2, HS, HO9, hb13, hh13⟩
                  case measure => simp [intOf]; omega
                · have hrw' : ¬ (row.length : Int) < (c.all.length : Int) := by omega
                  clear hf
                  go_wp2
                  go_roundw
                  case rel => exact ⟨j + 1, rfl, rfl, by go_num, by omega, HOR9, hb10, hh9⟩
                  case measure => simp [intOf]; omega
              · have hf' : (x.f == (q : Int)) = false := by simpa using hf
                go_wp2
                go_roundw
                case rel => exact ⟨j + 1, rfl, rfl, by go_num, by omega, HOR9, hb10, hh9⟩
                case measure => simp [intOf]; omega
            · have hlj' : ¬ (j : Int) < (c.all.length : Int) := by omega
              go_wp2
              go_roundw
              case rel => exact ⟨k + 1, q, row, A5, c5, s, rfl, rfl, by go_num, by omega, hq, hrl5, HIN, HAL, HOR, hb, hh⟩
              case measure => simp [intOf]; omega
        · have hll := HLL.out
          have K1 := sum_any AL cL c.all A5 c5 row (pn : Int) (q : Int) (q : Int) s wr (FD.out wr hb).2.1 (Rd.of_own HOR.out) (by omega) (by omega) (fun x hx => by obtain ⟨_, _, m1, m2⟩ := HBO.out x hx; omega) HIN.out HAL.out
          rw [beq_self_eq_true] at K1
          obtain ⟨-, r2, r3, -⟩ := G.out.rows pn (q : Int) s row (by rw [HN.out]; omega) hrl5 HIN.out HAL.out
          rw [Int.toNat_natCast] at r3
          have HR2 := hid r2
          clear r2
          go_wp2_with fail
          refine K1.mono ?_
          clear K1
          rintro e w11 ⟨rfl, h11⟩
          have hb11 : Bel D2 W8 w11 := hb.trans h11.bel
          have K2 := shows_any _ c (pn : Int) (q : Int) A5 c5 row w11 (HC3.out.ext (FD.out w11 hb11).1) HSZ.out (Rd.of_own (own_below HOR.out h11)) (by omega)
          rw [HR2.out] at K2
          obtain ⟨q0, q1, q2, q3⟩ := FC3.out w11 (FD.out w11 hb11).1
          go_wp2_with fail
          refine K2.mono ?_
          clear K2 q0 q1 q2 q3
          rintro e w12 ⟨rfl, h12⟩
          have hb12 : Bel D2 W8 w12 := hb11.trans h12.bel
          have g := (FD.out w12 hb12).2.2 pn q hpn hq
          have hd : decide (s < gst c pn q) = false := by simp; omega
          have hp8 : (pn : Int) < 8 := by omega
          have hq8 : (q : Int) < 8 := by omega
          have hd' : ¬ s < gst c pn q := by omega
          generalize gst c pn q = X at *
          clear r3
          go_wp2
          go_roundw
          case rel => exact ⟨z + 1, by go_num, by omega, hb12, hh.ext (h11.trans h12)⟩
          case measure => simp [intOf]; omega
    · have hlz' : ¬ (z : Int) < 6 := by omega
      go_wp2
      exact HEX.out _ _ _ _ _ _ _ _ _ _ _ _ _ _ _ _ _ _ _ _ _ _ _ _ _ _ _ _ _ _ _ _ _ _ _ _ _ _ _ _ _ _ _ _ _ _ _ _ _ _ _ _ _ _ _ _ _ _ _ _ _ _ _ _ _ _ _ _ _ _ _ _ _ _ _ _ _ _ _ _ _ _ _ _ _ _ _ _ _ _ _ _ _ _ _ _ _ _ wr hb hh
end Go.Proofs.Ytgnjhaomlbkgcaa
