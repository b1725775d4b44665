/- The reference Tokens: its frame opened; its regions, one by one. -/
import Derived.Test.YteikncnldbdfmaaGreatDoorFrm
import Derived.Test.YteikncnldbdfmaaGreatDoorRefTk
namespace Go.Proofs.YteikncnldbdfmaaGreatDoor
open Go.RowKit Go.Mh
noncomputable def tokC (p : List Nat) : Code := pick p (Tryz.f77.body.getD .skip)
set_option maxRecDepth 1000000 in
theorem open349 {P : Program} {c : Code} {Q : Exit → Act → World → Prop} {w : World} {c0 c1 c2 c3 c4 c5 c6 c7 c8 c9 c10 c11 c12 c13 c14 c15 c16 c17 c18 : Value} {fr : Array Value} (hf : Frm 349 [c0, c1, c2, c3, c4, c5, c6, c7, c8, c9, c10, c11, c12, c13, c14, c15, c16, c17, c18] fr)
    (h : ∀ u19 u20 u21 u22 u23 u24 u25 u26 u27 u28 u29 u30 u31 u32 u33 u34 u35 u36 u37 u38 u39 u40 u41 u42 u43 u44 u45 u46 u47 u48 u49 u50 u51 u52 u53 u54 u55 u56 u57 u58 u59 u60 u61 u62 u63 u64 u65 u66 u67 u68 u69 u70 u71 u72 u73 u74 u75 u76 u77 u78 u79 u80 u81 u82 u83 u84 u85 u86 u87 u88 u89 u90 u91 u92 u93 u94 u95 u96 u97 u98 u99 u100 u101 u102 u103 u104 u105 u106 u107 u108 u109 u110 u111 u112 u113 u114 u115 u116 u117 u118 u119 u120 u121 u122 u123 u124 u125 u126 u127 u128 u129 u130 u131 u132 u133 u134 u135 u136 u137 u138 u139 u140 u141 u142 u143 u144 u145 u146 u147 u148 u149 u150 u151 u152 u153 u154 u155 u156 u157 u158 u159 u160 u161 u162 u163 u164 u165 u166 u167 u168 u169 u170 u171 u172 u173 u174 u175 u176 u177 u178 u179 u180 u181 u182 u183 u184 u185 u186 u187 u188 u189 u190 u191 u192 u193 u194 u195 u196 u197 u198 u199 u200 u201 u202 u203 u204 u205 u206 u207 u208 u209 u210 u211 u212 u213 u214 u215 u216 u217 u218 u219 u220 u221 u222 u223 u224 u225 u226 u227 u228 u229 u230 u231 u232 u233 u234 u235 u236 u237 u238 u239 u240 u241 u242 u243 u244 u245 u246 u247 u248 u249 u250 u251 u252 u253 u254 u255 u256 u257 u258 u259 u260 u261 u262 u263 u264 u265 u266 u267 u268 u269 u270 u271 u272 u273 u274 u275 u276 u277 u278 u279 u280 u281 u282 u283 u284 u285 u286 u287 u288 u289 u290 u291 u292 u293 u294 u295 u296 u297 u298 u299 u300 u301 u302 u303 u304 u305 u306 u307 u308 u309 u310 u311 u312 u313 u314 u315 u316 u317 u318 u319 u320 u321 u322 u323 u324 u325 u326 u327 u328 u329 u330 u331 u332 u333 u334 u335 u336 u337 u338 u339 u340 u341 u342 u343 u344 u345 u346 u347 u348 : Value, c.wp P Q ⟨(c0 :: c1 :: c2 :: c3 :: c4 :: c5 :: c6 :: c7 :: c8 :: c9 :: c10 :: c11 :: c12 :: c13 :: c14 :: c15 :: c16 :: c17 :: c18 :: u19 :: u20 :: u21 :: u22 :: u23 :: u24 :: u25 :: u26 :: u27 :: u28 :: u29 :: u30 :: u31 :: u32 :: u33 :: u34 :: u35 :: u36 :: u37 :: u38 :: u39 :: u40 :: u41 :: u42 :: u43 :: u44 :: u45 :: u46 :: u47 :: u48 :: u49 :: u50 :: u51 :: u52 :: u53 :: u54 :: u55 :: u56 :: u57 :: u58 :: u59 :: u60 :: u61 :: u62 :: u63 :: u64 :: u65 :: u66 :: u67 :: u68 :: u69 :: u70 :: u71 :: u72 :: u73 :: u74 :: u75 :: u76 :: u77 :: u78 :: u79 :: u80 :: u81 :: u82 :: u83 :: u84 :: u85 :: u86 :: u87 :: u88 :: u89 :: u90 :: u91 :: u92 :: u93 :: u94 :: u95 :: u96 :: u97 :: u98 :: u99 :: u100 :: u101 :: u102 :: u103 :: u104 :: u105 :: u106 :: u107 :: u108 :: u109 :: u110 :: u111 :: u112 :: u113 :: u114 :: u115 :: u116 :: u117 :: u118 :: u119 :: u120 :: u121 :: u122 :: u123 :: u124 :: u125 :: u126 :: u127 :: u128 :: u129 :: u130 :: u131 :: u132 :: u133 :: u134 :: u135 :: u136 :: u137 :: u138 :: u139 :: u140 :: u141 :: u142 :: u143 :: u144 :: u145 :: u146 :: u147 :: u148 :: u149 :: u150 :: u151 :: u152 :: u153 :: u154 :: u155 :: u156 :: u157 :: u158 :: u159 :: u160 :: u161 :: u162 :: u163 :: u164 :: u165 :: u166 :: u167 :: u168 :: u169 :: u170 :: u171 :: u172 :: u173 :: u174 :: u175 :: u176 :: u177 :: u178 :: u179 :: u180 :: u181 :: u182 :: u183 :: u184 :: u185 :: u186 :: u187 :: u188 :: u189 :: u190 :: u191 :: u192 :: u193 :: u194 :: u195 :: u196 :: u197 :: u198 :: u199 :: u200 :: u201 :: u202 :: u203 :: u204 :: u205 :: u206 :: u207 :: u208 :: u209 :: u210 :: u211 :: u212 :: u213 :: u214 :: u215 :: u216 :: u217 :: u218 :: u219 :: u220 :: u221 :: u222 :: u223 :: u224 :: u225 :: u226 :: u227 :: u228 :: u229 :: u230 :: u231 :: u232 :: u233 :: u234 :: u235 :: u236 :: u237 :: u238 :: u239 :: u240 :: u241 :: u242 :: u243 :: u244 :: u245 :: u246 :: u247 :: u248 :: u249 :: u250 :: u251 :: u252 :: u253 :: u254 :: u255 :: u256 :: u257 :: u258 :: u259 :: u260 :: u261 :: u262 :: u263 :: u264 :: u265 :: u266 :: u267 :: u268 :: u269 :: u270 :: u271 :: u272 :: u273 :: u274 :: u275 :: u276 :: u277 :: u278 :: u279 :: u280 :: u281 :: u282 :: u283 :: u284 :: u285 :: u286 :: u287 :: u288 :: u289 :: u290 :: u291 :: u292 :: u293 :: u294 :: u295 :: u296 :: u297 :: u298 :: u299 :: u300 :: u301 :: u302 :: u303 :: u304 :: u305 :: u306 :: u307 :: u308 :: u309 :: u310 :: u311 :: u312 :: u313 :: u314 :: u315 :: u316 :: u317 :: u318 :: u319 :: u320 :: u321 :: u322 :: u323 :: u324 :: u325 :: u326 :: u327 :: u328 :: u329 :: u330 :: u331 :: u332 :: u333 :: u334 :: u335 :: u336 :: u337 :: u338 :: u339 :: u340 :: u341 :: u342 :: u343 :: u344 :: u345 :: u346 :: u347 :: u348 :: []).toArray, []⟩ w) : c.wp P Q ⟨fr, []⟩ w := by
  rw [hf.rest]
  exact h _ _ _ _ _ _ _ _ _ _ _ _ _ _ _ _ _ _ _ _ _ _ _ _ _ _ _ _ _ _ _ _ _ _ _ _ _ _ _ _ _ _ _ _ _ _ _ _ _ _ _ _ _ _ _ _ _ _ _ _ _ _ _ _ _ _ _ _ _ _ _ _ _ _ _ _ _ _ _ _ _ _ _ _ _ _ _ _ _ _ _ _ _ _ _ _ _ _ _ _ _ _ _ _ _ _ _ _ _ _ _ _ _ _ _ _ _ _ _ _ _ _ _ _ _ _ _ _ _ _ _ _ _ _ _ _ _ _ _ _ _ _ _ _ _ _ _ _ _ _ _ _ _ _ _ _ _ _ _ _ _ _ _ _ _ _ _ _ _ _ _ _ _ _ _ _ _ _ _ _ _ _ _ _ _ _ _ _ _ _ _ _ _ _ _ _ _ _ _ _ _ _ _ _ _ _ _ _ _ _ _ _ _ _ _ _ _ _ _ _ _ _ _ _ _ _ _ _ _ _ _ _ _ _ _ _ _ _ _ _ _ _ _ _ _ _ _ _ _ _ _ _ _ _ _ _ _ _ _ _ _ _ _ _ _ _ _ _ _ _ _ _ _ _ _ _ _ _ _ _ _ _ _ _ _ _ _ _ _ _ _ _ _ _ _ _ _ _ _ _ _ _ _ _ _ _ _ _ _ _ _ _ _ _ _ _ _ _ _ _ _ _ _ _ _ _ _ _ _ _
set_option maxRecDepth 1000000 in
set_option maxHeartbeats 4000000 in
theorem tl5 (Q : Exit → Act → World → Prop) (w : World) {bb b0 o0 vc : Nat} {S : Bs} {fr : Array Value} {c0 c2 c3 c7 c8 c9 c10 c11 c12 c13 c14 c15 c16 c17 c18 : Value} (i : Nat) (hf : Frm 349 [c0, ptr bb, c2, c3, .func (.func 131) #[] #[ptr bb], .func (.func 132) #[] #[ptr bb], .int .i64 i, c7, c8, c9, c10, c11, c12, c13, c14, c15, c16, c17, c18] fr) (hsr : Src bb b0 o0 vc S w)
    (hp : ∀ (fr' : Array Value), Frm 349 [c0, ptr bb, c2, c3, .func (.func 131) #[] #[ptr bb], .func (.func 132) #[] #[ptr bb], .int .i64 i, c7, c8, c9, c10, c11, c12, c13, c14, c15, c16, c17, c18] fr' → fr'.getD 24 undef = .bool (decide (i < S.length)) → Q .normal ⟨fr', []⟩ w) :
    Code.wp Tryz.prog (tokC [1, 1, 1, 1, 1, 0, 2, 2, 0, 0]) Q ⟨fr, []⟩ w := by
  refine open349 hf ?_
  intros
  conv => arg 2; whnf
  have hx := hsr.box
  by_cases h : i < S.length
  · rw [decide_eq_true h] at hp
    clear hsr
    go_wp2
    exact hp _ ⟨rfl, rfl⟩ rfl
  · rw [decide_eq_false h] at hp
    clear hsr
    go_wp2
    exact hp _ ⟨rfl, rfl⟩ rfl
set_option maxRecDepth 1000000 in
set_option maxHeartbeats 4000000 in
theorem tl6 (Q : Exit → Act → World → Prop) (w : World) {bb b0 o0 vc : Nat} {S : Bs} {fr : Array Value} {c0 c2 c3 c7 c8 c9 c10 c11 c12 c13 c14 c15 c16 c17 c18 : Value} (i : Nat) (hf : Frm 349 [c0, ptr bb, c2, c3, .func (.func 131) #[] #[ptr bb], .func (.func 132) #[] #[ptr bb], .int .i64 i, c7, c8, c9, c10, c11, c12, c13, c14, c15, c16, c17, c18] fr) (hsr : Src bb b0 o0 vc S w) (c : UInt8) (hc : S[i]? = some c)
    (hp : ∀ (fr' : Array Value), Frm 349 [c0, ptr bb, c2, c3, .func (.func 131) #[] #[ptr bb], .func (.func 132) #[] #[ptr bb], .int .i64 i, c7, c8, c9, c10, c11, c12, c13, c14, c15, c16, c17, c18] fr' → fr'.getD 29 undef = .bool (c != 60) → Q .normal ⟨fr', []⟩ w) :
    Code.wp Tryz.prog (tokC [1, 1, 1, 1, 1, 0, 2, 2, 1, 2, 0, 0]) Q ⟨fr, []⟩ w := by
  refine open349 hf ?_
  intros
  conv => arg 2; whnf
  have hx := hsr.box
  have hr := hsr.at' i c hc
  have hlt := (List.getElem?_eq_some_iff.1 hc).1
  by_cases h : c = 60
  · have t1 : ((c.toNat : Int) != 60) = false := by rw [h]; rfl
    rw [show (c != 60) = false by rw [h]; rfl] at hp
    clear h hc hsr
    go_wp2
    exact hp _ ⟨rfl, rfl⟩ rfl
  · have t1 : ((c.toNat : Int) != 60) = true := by rw [bne_iff_ne]; intro e; exact h (UInt8.toNat_inj.1 (by show c.toNat = 60; omega))
    rw [show (c != 60) = true by simpa using h] at hp
    clear h hc hsr
    go_wp2
    exact hp _ ⟨rfl, rfl⟩ rfl
set_option maxRecDepth 1000000 in
set_option maxHeartbeats 4000000 in
theorem tl7 (Q : Exit → Act → World → Prop) (w : World) {bb : Nat} {fr : Array Value} {c0 c2 c3 c7 c8 c9 c10 c11 c12 c13 c14 c15 c16 c17 c18 : Value} (k : Nat) (hf : Frm 349 [c0, ptr bb, c2, c3, .func (.func 131) #[] #[ptr bb], .func (.func 132) #[] #[ptr bb], .int .i64 k, c7, c8, c9, c10, c11, c12, c13, c14, c15, c16, c17, c18] fr)
    (hp : ∀ (fr' : Array Value), Frm 349 [c0, ptr bb, c2, c3, .func (.func 131) #[] #[ptr bb], .func (.func 132) #[] #[ptr bb], .int .i64 k, .int .i64 k, c8, c9, c10, c11, c12, c13, c14, c15, c16, c17, c18] fr' → Q .normal ⟨fr', []⟩ w) :
    Code.wp Tryz.prog (tokC [1, 1, 1, 1, 1, 0, 2, 2, 1, 2, 0, 1, 3, 0]) Q ⟨fr, []⟩ w := by
  refine open349 hf ?_
  intros
  conv => arg 2; whnf
  go_wp2
  first | exact hp _ ⟨rfl, rfl⟩ | exact ⟨rfl, rfl⟩
set_option maxRecDepth 1000000 in
set_option maxHeartbeats 4000000 in
theorem tl8 (Q : Exit → Act → World → Prop) (w : World) {bb b0 o0 vc : Nat} {S : Bs} {fr : Array Value} {c0 c2 c3 c6 c8 c9 c10 c11 c12 c13 c14 c15 c16 c17 c18 : Value} (k : Nat) (hf : Frm 349 [c0, ptr bb, c2, c3, .func (.func 131) #[] #[ptr bb], .func (.func 132) #[] #[ptr bb], c6, .int .i64 k, c8, c9, c10, c11, c12, c13, c14, c15, c16, c17, c18] fr) (hsr : Src bb b0 o0 vc S w)
    (hp : ∀ (fr' : Array Value), Frm 349 [c0, ptr bb, c2, c3, .func (.func 131) #[] #[ptr bb], .func (.func 132) #[] #[ptr bb], c6, .int .i64 k, c8, c9, c10, c11, c12, c13, c14, c15, c16, c17, c18] fr' → fr'.getD 41 undef = .bool (tst n60 S k) → Q .normal ⟨fr', []⟩ w) :
    Code.wp Tryz.prog (tokC [1, 1, 1, 1, 1, 0, 2, 2, 1, 2, 0, 1, 3, 1, 0, 2, 2, 0, 0]) Q ⟨fr, []⟩ w := by
  refine open349 hf ?_
  intros
  conv => arg 2; whnf
  have hx := hsr.box
  by_cases hkl : k < S.length
  · obtain ⟨d, hd⟩ : ∃ d, S[k]? = some d := ⟨_, List.getElem?_eq_getElem hkl⟩
    have hr := hsr.at' k d hd
    rw [tst_in _ hd] at hp
    clear hd hsr
    by_cases h60 : d = 60
    · have t60 : ((d.toNat : Int) != 60) = false := by rw [h60]; rfl
      have hv : n60 d = false := by rw [h60]; rfl
      rw [hv] at hp
      clear h60 hv
      go_wp2
      exact hp _ ⟨rfl, rfl⟩ rfl
    · have t60 : ((d.toNat : Int) != 60) = true := by rw [bne_iff_ne]; intro e; exact h60 (UInt8.toNat_inj.1 (by show d.toNat = 60; omega))
      have hv : n60 d = true := by first | rfl | simp [n60, h60]
      rw [hv] at hp
      clear hv h60
      go_wp2
      exact hp _ ⟨rfl, rfl⟩ rfl
  · rw [tst_out _ (by omega)] at hp
    clear hsr
    go_wp2
    exact hp _ ⟨rfl, rfl⟩ rfl
set_option maxRecDepth 1000000 in
set_option maxHeartbeats 4000000 in
theorem tl9 (Q : Exit → Act → World → Prop) (w : World) {bb : Nat} {S : Bs} {fr : Array Value} {c0 c2 c3 c6 c8 c9 c10 c11 c12 c13 c14 c15 c16 c17 c18 : Value} (k : Nat) (hf : Frm 349 [c0, ptr bb, c2, c3, .func (.func 131) #[] #[ptr bb], .func (.func 132) #[] #[ptr bb], c6, .int .i64 k, c8, c9, c10, c11, c12, c13, c14, c15, c16, c17, c18] fr) (hk : k ≤ S.length) (hS : S.length ≤ 20000)
    (hp : ∀ (fr' : Array Value), Frm 349 [c0, ptr bb, c2, c3, .func (.func 131) #[] #[ptr bb], .func (.func 132) #[] #[ptr bb], c6, .int .i64 ((k + 1 : Nat) : Int), c8, c9, c10, c11, c12, c13, c14, c15, c16, c17, c18] fr' → Q .normal ⟨fr', []⟩ w) :
    Code.wp Tryz.prog (tokC [1, 1, 1, 1, 1, 0, 2, 2, 1, 2, 0, 1, 3, 1, 0, 2, 2, 1, 2]) Q ⟨fr, []⟩ w := by
  refine open349 hf ?_
  intros
  conv => arg 2; whnf
  go_wp2
  first | exact hp _ ⟨rfl, rfl⟩ | exact ⟨rfl, rfl⟩
set_option maxRecDepth 1000000 in
set_option maxHeartbeats 4000000 in
theorem tl11 (Q : Exit → Act → World → Prop) (w : World) {bb : Nat} {fr : Array Value} {c0 c2 c3 c6 c8 c9 c10 c11 c12 c13 c14 c15 c16 c17 c18 : Value} (k : Nat) (hf : Frm 349 [c0, ptr bb, c2, c3, .func (.func 131) #[] #[ptr bb], .func (.func 132) #[] #[ptr bb], c6, .int .i64 k, c8, c9, c10, c11, c12, c13, c14, c15, c16, c17, c18] fr)
    (hp : ∀ (fr' : Array Value), Frm 349 [c0, ptr bb, c2, c3, .func (.func 131) #[] #[ptr bb], .func (.func 132) #[] #[ptr bb], .int .i64 k, .int .i64 k, c8, c9, c10, c11, c12, c13, c14, c15, c16, c17, c18] fr' → Q .normal ⟨fr', []⟩ w) :
    Code.wp Tryz.prog (tokC [1, 1, 1, 1, 1, 0, 2, 2, 1, 2, 0, 1, 3, 1, 1, 1, 0]) Q ⟨fr, []⟩ w := by
  refine open349 hf ?_
  intros
  conv => arg 2; whnf
  go_wp2
  first | exact hp _ ⟨rfl, rfl⟩ | exact ⟨rfl, rfl⟩
set_option maxRecDepth 1000000 in
set_option maxHeartbeats 4000000 in
theorem tl12 (Q : Exit → Act → World → Prop) (w : World) {bb : Nat} {S : Bs} {fr : Array Value} {c0 c2 c3 c7 c8 c9 c10 c11 c12 c13 c14 c15 c16 c17 c18 : Value} (i : Nat) (hf : Frm 349 [c0, ptr bb, c2, c3, .func (.func 131) #[] #[ptr bb], .func (.func 132) #[] #[ptr bb], .int .i64 i, c7, c8, c9, c10, c11, c12, c13, c14, c15, c16, c17, c18] fr) (hi : i ≤ S.length) (hS : S.length ≤ 20000)
    (hp : ∀ (fr' : Array Value), Frm 349 [c0, ptr bb, c2, c3, .func (.func 131) #[] #[ptr bb], .func (.func 132) #[] #[ptr bb], .int .i64 i, c7, .int .i64 ((i + 1 : Nat) : Int), c9, c10, c11, c12, c13, c14, c15, c16, c17, c18] fr' → Q .normal ⟨fr', []⟩ w) :
    Code.wp Tryz.prog (tokC [1, 1, 1, 1, 1, 0, 2, 2, 1, 2, 1, 0]) Q ⟨fr, []⟩ w := by
  refine open349 hf ?_
  intros
  conv => arg 2; whnf
  go_wp2
  first | exact hp _ ⟨rfl, rfl⟩ | exact ⟨rfl, rfl⟩
set_option maxRecDepth 1000000 in
set_option maxHeartbeats 4000000 in
theorem tl15 (Q : Exit → Act → World → Prop) (w : World) {bb : Nat} {S : Bs} {fr : Array Value} {c0 c2 c3 c6 c7 c9 c10 c11 c12 c13 c14 c15 c16 c17 c18 : Value} (k : Nat) (hf : Frm 349 [c0, ptr bb, c2, c3, .func (.func 131) #[] #[ptr bb], .func (.func 132) #[] #[ptr bb], c6, c7, .int .i64 k, c9, c10, c11, c12, c13, c14, c15, c16, c17, c18] fr) (hk : k ≤ S.length) (hS : S.length ≤ 20000)
    (hp : ∀ (fr' : Array Value), Frm 349 [c0, ptr bb, c2, c3, .func (.func 131) #[] #[ptr bb], .func (.func 132) #[] #[ptr bb], c6, c7, .int .i64 ((k + 1 : Nat) : Int), c9, c10, c11, c12, c13, c14, c15, c16, c17, c18] fr' → Q .normal ⟨fr', []⟩ w) :
    Code.wp Tryz.prog (tokC [1, 1, 1, 1, 1, 0, 2, 2, 1, 2, 1, 1, 1, 0, 1, 3]) Q ⟨fr, []⟩ w := by
  refine open349 hf ?_
  intros
  conv => arg 2; whnf
  go_wp2
  first | exact hp _ ⟨rfl, rfl⟩ | exact ⟨rfl, rfl⟩
set_option maxRecDepth 1000000 in
set_option maxHeartbeats 4000000 in
theorem tl24 (Q : Exit → Act → World → Prop) (w : World) {bb : Nat} {S : Bs} {fr : Array Value} {c0 c2 c3 c7 c8 c9 c10 c11 c12 c13 c14 c15 c16 c17 c18 : Value} (k : Nat) (hf : Frm 349 [c0, ptr bb, c2, c3, .func (.func 131) #[] #[ptr bb], .func (.func 132) #[] #[ptr bb], .int .i64 k, c7, c8, c9, c10, c11, c12, c13, c14, c15, c16, c17, c18] fr) (hk : k ≤ S.length) (hS : S.length ≤ 20000)
    (hp : ∀ (fr' : Array Value), Frm 349 [c0, ptr bb, c2, c3, .func (.func 131) #[] #[ptr bb], .func (.func 132) #[] #[ptr bb], .int .i64 ((k + 1 : Nat) : Int), c7, c8, c9, c10, c11, c12, c13, c14, c15, c16, c17, c18] fr' → Q .normal ⟨fr', []⟩ w) :
    Code.wp Tryz.prog (tokC [1, 1, 1, 1, 1, 0, 2, 2, 1, 2, 1, 1, 1, 1, 0, 2, 1, 4, 1, 4, 1, 3, 1, 0]) Q ⟨fr, []⟩ w := by
  refine open349 hf ?_
  intros
  conv => arg 2; whnf
  go_wp2
  first | exact hp _ ⟨rfl, rfl⟩ | exact ⟨rfl, rfl⟩
set_option maxRecDepth 1000000 in
set_option maxHeartbeats 4000000 in
theorem tl14 (Q : Exit → Act → World → Prop) (w : World) {bb : Nat} {fr : Array Value} {c0 c2 c3 c6 c7 c8 c10 c11 c12 c13 c14 c15 c16 c17 c18 : Value} (z : Bool) (hf : Frm 349 [c0, ptr bb, c2, c3, .func (.func 131) #[] #[ptr bb], .func (.func 132) #[] #[ptr bb], c6, c7, c8, .bool z, c10, c11, c12, c13, c14, c15, c16, c17, c18] fr)
    (hp : ∀ (fr' : Array Value), Frm 349 [c0, ptr bb, c2, c3, .func (.func 131) #[] #[ptr bb], .func (.func 132) #[] #[ptr bb], c6, c7, c8, .bool z, c10, c11, c12, c13, c14, c15, c16, c17, c18] fr' → fr'.getD 61 undef = .bool z → Q .normal ⟨fr', []⟩ w) :
    Code.wp Tryz.prog (tokC [1, 1, 1, 1, 1, 0, 2, 2, 1, 2, 1, 1, 1, 0, 0]) Q ⟨fr, []⟩ w := by
  refine open349 hf ?_
  intros
  conv => arg 2; whnf
  go_wp2
  exact hp _ ⟨rfl, rfl⟩ rfl
set_option maxRecDepth 1000000 in
set_option maxHeartbeats 4000000 in
theorem tl25 (Q : Exit → Act → World → Prop) (w : World) {bb : Nat} {fr : Array Value} {c0 c2 c3 c6 c7 c9 c10 c11 c12 c13 c14 c15 c16 c17 c18 : Value} (k : Nat) (hf : Frm 349 [c0, ptr bb, c2, c3, .func (.func 131) #[] #[ptr bb], .func (.func 132) #[] #[ptr bb], c6, c7, .int .i64 k, c9, c10, c11, c12, c13, c14, c15, c16, c17, c18] fr)
    (hp : ∀ (fr' : Array Value), Frm 349 [c0, ptr bb, c2, c3, .func (.func 131) #[] #[ptr bb], .func (.func 132) #[] #[ptr bb], c6, c7, .int .i64 k, c9, .int .i64 k, c11, c12, c13, c14, c15, c16, c17, c18] fr' → Q .normal ⟨fr', []⟩ w) :
    Code.wp Tryz.prog (tokC [1, 1, 1, 1, 1, 0, 2, 2, 1, 2, 1, 1, 1, 1, 1, 0]) Q ⟨fr, []⟩ w := by
  refine open349 hf ?_
  intros
  conv => arg 2; whnf
  go_wp2
  first | exact hp _ ⟨rfl, rfl⟩ | exact ⟨rfl, rfl⟩
set_option maxRecDepth 1000000 in
set_option maxHeartbeats 4000000 in
theorem tl26 (Q : Exit → Act → World → Prop) (w : World) {bb b0 o0 vc : Nat} {S : Bs} {fr : Array Value} {c0 c2 c3 c6 c7 c8 c9 c11 c12 c13 c14 c15 c16 c17 c18 : Value} (k : Nat) (hf : Frm 349 [c0, ptr bb, c2, c3, .func (.func 131) #[] #[ptr bb], .func (.func 132) #[] #[ptr bb], c6, c7, c8, c9, .int .i64 k, c11, c12, c13, c14, c15, c16, c17, c18] fr) (hsr : Src bb b0 o0 vc S w)
    (hp : ∀ (fr' : Array Value), Frm 349 [c0, ptr bb, c2, c3, .func (.func 131) #[] #[ptr bb], .func (.func 132) #[] #[ptr bb], c6, c7, c8, c9, .int .i64 k, c11, c12, c13, c14, c15, c16, c17, c18] fr' → fr'.getD 152 undef = .bool (tst nb2 S k) → Q .normal ⟨fr', []⟩ w) :
    Code.wp Tryz.prog (tokC [1, 1, 1, 1, 1, 0, 2, 2, 1, 2, 1, 1, 1, 1, 1, 1, 0, 2, 2, 0, 0]) Q ⟨fr, []⟩ w := by
  refine open349 hf ?_
  intros
  conv => arg 2; whnf
  have hx := hsr.box
  by_cases hkl : k < S.length
  · obtain ⟨d, hd⟩ : ∃ d, S[k]? = some d := ⟨_, List.getElem?_eq_getElem hkl⟩
    have hr := hsr.at' k d hd
    rw [tst_in _ hd] at hp
    clear hd hsr
    go_wp2_with fail
    refine (refSpace_any d _).mono ?_
    rintro e w3 ⟨rfl, hw3⟩
    replace hw3 := hw3.symm
    subst hw3
    cases hsp : isSp d with
    | true =>
      have hv : nb2 d = false := by simp [nb2, hsp]
      rw [hv] at hp
      go_wp2
      exact hp _ ⟨rfl, rfl⟩ rfl
    | false =>
      by_cases h47 : d = 47
      · have t47 : ((d.toNat : Int) != 47) = false := by rw [h47]; rfl
        have hv : nb2 d = false := by rw [h47]; rfl
        rw [hv] at hp
        clear h47 hv
        go_wp2
        exact hp _ ⟨rfl, rfl⟩ rfl
      · have t47 : ((d.toNat : Int) != 47) = true := by rw [bne_iff_ne]; intro e; exact h47 (UInt8.toNat_inj.1 (by show d.toNat = 47; omega))
        by_cases h62 : d = 62
        · have t62 : ((d.toNat : Int) != 62) = false := by rw [h62]; rfl
          have hv : nb2 d = false := by rw [h62]; rfl
          rw [hv] at hp
          clear h62 hv
          go_wp2
          exact hp _ ⟨rfl, rfl⟩ rfl
        · have t62 : ((d.toNat : Int) != 62) = true := by rw [bne_iff_ne]; intro e; exact h62 (UInt8.toNat_inj.1 (by show d.toNat = 62; omega))
          have hv : nb2 d = true := by first | rfl | simp [nb2, hsp, h47, h62]
          rw [hv] at hp
          clear hv h47 h62
          go_wp2
          exact hp _ ⟨rfl, rfl⟩ rfl
  · rw [tst_out _ (by omega)] at hp
    clear hsr
    go_wp2
    exact hp _ ⟨rfl, rfl⟩ rfl
set_option maxRecDepth 1000000 in
set_option maxHeartbeats 4000000 in
theorem tl27 (Q : Exit → Act → World → Prop) (w : World) {bb : Nat} {S : Bs} {fr : Array Value} {c0 c2 c3 c6 c7 c8 c9 c11 c12 c13 c14 c15 c16 c17 c18 : Value} (k : Nat) (hf : Frm 349 [c0, ptr bb, c2, c3, .func (.func 131) #[] #[ptr bb], .func (.func 132) #[] #[ptr bb], c6, c7, c8, c9, .int .i64 k, c11, c12, c13, c14, c15, c16, c17, c18] fr) (hk : k ≤ S.length) (hS : S.length ≤ 20000)
    (hp : ∀ (fr' : Array Value), Frm 349 [c0, ptr bb, c2, c3, .func (.func 131) #[] #[ptr bb], .func (.func 132) #[] #[ptr bb], c6, c7, c8, c9, .int .i64 ((k + 1 : Nat) : Int), c11, c12, c13, c14, c15, c16, c17, c18] fr' → Q .normal ⟨fr', []⟩ w) :
    Code.wp Tryz.prog (tokC [1, 1, 1, 1, 1, 0, 2, 2, 1, 2, 1, 1, 1, 1, 1, 1, 0, 2, 2, 1, 2]) Q ⟨fr, []⟩ w := by
  refine open349 hf ?_
  intros
  conv => arg 2; whnf
  go_wp2
  first | exact hp _ ⟨rfl, rfl⟩ | exact ⟨rfl, rfl⟩
set_option maxRecDepth 1000000 in
set_option maxHeartbeats 4000000 in
theorem tl29 (Q : Exit → Act → World → Prop) (w : World) {bb : Nat} {fr : Array Value} {c0 c2 c3 c6 c7 c8 c10 c11 c12 c13 c14 c15 c16 c17 c18 : Value} (z : Bool) (hf : Frm 349 [c0, ptr bb, c2, c3, .func (.func 131) #[] #[ptr bb], .func (.func 132) #[] #[ptr bb], c6, c7, c8, .bool z, c10, c11, c12, c13, c14, c15, c16, c17, c18] fr)
    (hp : ∀ (fr' : Array Value), Frm 349 [c0, ptr bb, c2, c3, .func (.func 131) #[] #[ptr bb], .func (.func 132) #[] #[ptr bb], c6, c7, c8, .bool z, c10, c11, c12, c13, c14, c15, c16, c17, c18] fr' → fr'.getD 162 undef = .bool z → Q .normal ⟨fr', []⟩ w) :
    Code.wp Tryz.prog (tokC [1, 1, 1, 1, 1, 0, 2, 2, 1, 2, 1, 1, 1, 1, 1, 1, 1, 1, 0, 0]) Q ⟨fr, []⟩ w := by
  refine open349 hf ?_
  intros
  conv => arg 2; whnf
  go_wp2
  exact hp _ ⟨rfl, rfl⟩ rfl
set_option maxRecDepth 1000000 in
set_option maxHeartbeats 4000000 in
theorem tl31 (Q : Exit → Act → World → Prop) (w : World) {bb : Nat} {fr : Array Value} {c0 c2 c3 c6 c7 c8 c9 c10 c11 c12 c13 c14 c15 c16 c17 c18 : Value} (hf : Frm 349 [c0, ptr bb, c2, c3, .func (.func 131) #[] #[ptr bb], .func (.func 132) #[] #[ptr bb], c6, c7, c8, c9, c10, c11, c12, c13, c14, c15, c16, c17, c18] fr)
    (hp : ∀ (fr' : Array Value), Frm 349 [c0, ptr bb, c2, c3, .func (.func 131) #[] #[ptr bb], .func (.func 132) #[] #[ptr bb], c6, c7, c8, c9, c10, c11, str [], .bool false, c14, c15, c16, c17, c18] fr' → Q .normal ⟨fr', []⟩ w) :
    Code.wp Tryz.prog (tokC [1, 1, 1, 1, 1, 0, 2, 2, 1, 2, 1, 1, 1, 1, 1, 1, 1, 1, 1, 0]) Q ⟨fr, []⟩ w := by
  refine open349 hf ?_
  intros
  conv => arg 2; whnf
  go_wp2
  first | exact hp _ ⟨rfl, rfl⟩ | exact ⟨rfl, rfl⟩
set_option maxRecDepth 1000000 in
set_option maxHeartbeats 4000000 in
theorem tl32 (Q : Exit → Act → World → Prop) (w : World) {bb b0 o0 vc : Nat} {S : Bs} {fr : Array Value} {c0 c2 c3 c6 c7 c8 c9 c11 c12 c13 c14 c15 c16 c17 c18 : Value} (k : Nat) (hf : Frm 349 [c0, ptr bb, c2, c3, .func (.func 131) #[] #[ptr bb], .func (.func 132) #[] #[ptr bb], c6, c7, c8, c9, .int .i64 k, c11, c12, c13, c14, c15, c16, c17, c18] fr) (hsr : Src bb b0 o0 vc S w)
    (hp : ∀ (fr' : Array Value), Frm 349 [c0, ptr bb, c2, c3, .func (.func 131) #[] #[ptr bb], .func (.func 132) #[] #[ptr bb], c6, c7, c8, c9, .int .i64 k, c11, c12, c13, c14, c15, c16, c17, c18] fr' → fr'.getD 174 undef = .bool (tst n62 S k) → Q .normal ⟨fr', []⟩ w) :
    Code.wp Tryz.prog (tokC [1, 1, 1, 1, 1, 0, 2, 2, 1, 2, 1, 1, 1, 1, 1, 1, 1, 1, 1, 1, 0, 2, 2, 0, 0]) Q ⟨fr, []⟩ w := by
  refine open349 hf ?_
  intros
  conv => arg 2; whnf
  have hx := hsr.box
  by_cases hkl : k < S.length
  · obtain ⟨d, hd⟩ : ∃ d, S[k]? = some d := ⟨_, List.getElem?_eq_getElem hkl⟩
    have hr := hsr.at' k d hd
    rw [tst_in _ hd] at hp
    clear hd hsr
    by_cases h62 : d = 62
    · have t62 : ((d.toNat : Int) != 62) = false := by rw [h62]; rfl
      have hv : n62 d = false := by rw [h62]; rfl
      rw [hv] at hp
      clear h62 hv
      go_wp2
      exact hp _ ⟨rfl, rfl⟩ rfl
    · have t62 : ((d.toNat : Int) != 62) = true := by rw [bne_iff_ne]; intro e; exact h62 (UInt8.toNat_inj.1 (by show d.toNat = 62; omega))
      have hv : n62 d = true := by first | rfl | simp [n62, h62]
      rw [hv] at hp
      clear hv h62
      go_wp2
      exact hp _ ⟨rfl, rfl⟩ rfl
  · rw [tst_out _ (by omega)] at hp
    clear hsr
    go_wp2
    exact hp _ ⟨rfl, rfl⟩ rfl
set_option maxRecDepth 1000000 in
set_option maxHeartbeats 4000000 in
theorem tl33 (Q : Exit → Act → World → Prop) (w : World) {bb b0 o0 vc : Nat} {S : Bs} {fr : Array Value} {c0 c2 c3 c6 c7 c8 c9 c11 c12 c13 c14 c15 c16 c17 c18 : Value} (k : Nat) (hf : Frm 349 [c0, ptr bb, c2, c3, .func (.func 131) #[] #[ptr bb], .func (.func 132) #[] #[ptr bb], c6, c7, c8, c9, .int .i64 k, c11, c12, c13, c14, c15, c16, c17, c18] fr) (hsr : Src bb b0 o0 vc S w) (d : UInt8) (hd : S[k]? = some d)
    (hp : ∀ (fr' : Array Value), Frm 349 [c0, ptr bb, c2, c3, .func (.func 131) #[] #[ptr bb], .func (.func 132) #[] #[ptr bb], c6, c7, c8, c9, .int .i64 k, c11, c12, c13, c14, c15, c16, c17, c18] fr' → fr'.getD 186 undef = .bool (sk2 d) → Q .normal ⟨fr', []⟩ w) :
    Code.wp Tryz.prog (tokC [1, 1, 1, 1, 1, 0, 2, 2, 1, 2, 1, 1, 1, 1, 1, 1, 1, 1, 1, 1, 0, 2, 2, 1, 2, 0, 0]) Q ⟨fr, []⟩ w := by
  refine open349 hf ?_
  intros
  conv => arg 2; whnf
  have hx := hsr.box
  have hr := hsr.at' k d hd
  have hlt := (List.getElem?_eq_some_iff.1 hd).1
  clear hd hsr
  go_wp2_with fail
  refine (refSpace_any d _).mono ?_
  rintro e w3 ⟨rfl, hw3⟩
  replace hw3 := hw3.symm
  subst hw3
  cases hsp : isSp d with
  | true =>
    rw [show sk2 d = true by simp [sk2, hsp]] at hp
    go_wp2
    exact hp _ ⟨rfl, rfl⟩ rfl
  | false =>
    by_cases h47 : d = 47
    · have t47 : ((d.toNat : Int) == 47) = true := by rw [h47]; rfl
      rw [show sk2 d = true by rw [h47]; rfl] at hp
      clear h47
      go_wp2
      exact hp _ ⟨rfl, rfl⟩ rfl
    · have t47 : ((d.toNat : Int) == 47) = false := by rw [beq_eq_false_iff_ne]; intro e; exact h47 (UInt8.toNat_inj.1 (by show d.toNat = 47; omega))
      rw [show sk2 d = false by simp [sk2, hsp, h47]] at hp
      clear h47
      go_wp2
      exact hp _ ⟨rfl, rfl⟩ rfl
set_option maxRecDepth 1000000 in
set_option maxHeartbeats 4000000 in
theorem tl34 (Q : Exit → Act → World → Prop) (w : World) {bb : Nat} {S : Bs} {fr : Array Value} {c0 c2 c3 c6 c7 c8 c9 c11 c12 c13 c14 c15 c16 c17 c18 : Value} (k : Nat) (hf : Frm 349 [c0, ptr bb, c2, c3, .func (.func 131) #[] #[ptr bb], .func (.func 132) #[] #[ptr bb], c6, c7, c8, c9, .int .i64 k, c11, c12, c13, c14, c15, c16, c17, c18] fr) (hk : k ≤ S.length) (hS : S.length ≤ 20000)
    (hp : ∀ (fr' : Array Value), Frm 349 [c0, ptr bb, c2, c3, .func (.func 131) #[] #[ptr bb], .func (.func 132) #[] #[ptr bb], c6, c7, c8, c9, .int .i64 ((k + 1 : Nat) : Int), c11, c12, c13, c14, c15, c16, c17, c18] fr' → Q .normal ⟨fr', []⟩ w) :
    Code.wp Tryz.prog (tokC [1, 1, 1, 1, 1, 0, 2, 2, 1, 2, 1, 1, 1, 1, 1, 1, 1, 1, 1, 1, 0, 2, 2, 1, 2, 0, 1, 3, 0]) Q ⟨fr, []⟩ w := by
  refine open349 hf ?_
  intros
  conv => arg 2; whnf
  go_wp2
  first | exact hp _ ⟨rfl, rfl⟩ | exact ⟨rfl, rfl⟩
set_option maxRecDepth 1000000 in
set_option maxHeartbeats 4000000 in
theorem tl35 (Q : Exit → Act → World → Prop) (w : World) {bb : Nat} {fr : Array Value} {c0 c2 c3 c6 c7 c8 c9 c11 c12 c13 c14 c15 c16 c17 c18 : Value} (k : Nat) (hf : Frm 349 [c0, ptr bb, c2, c3, .func (.func 131) #[] #[ptr bb], .func (.func 132) #[] #[ptr bb], c6, c7, c8, c9, .int .i64 k, c11, c12, c13, c14, c15, c16, c17, c18] fr)
    (hp : ∀ (fr' : Array Value), Frm 349 [c0, ptr bb, c2, c3, .func (.func 131) #[] #[ptr bb], .func (.func 132) #[] #[ptr bb], c6, c7, c8, c9, .int .i64 k, c11, c12, c13, .int .i64 k, c15, c16, c17, c18] fr' → Q .normal ⟨fr', []⟩ w) :
    Code.wp Tryz.prog (tokC [1, 1, 1, 1, 1, 0, 2, 2, 1, 2, 1, 1, 1, 1, 1, 1, 1, 1, 1, 1, 0, 2, 2, 1, 2, 1, 0]) Q ⟨fr, []⟩ w := by
  refine open349 hf ?_
  intros
  conv => arg 2; whnf
  go_wp2
  first | exact hp _ ⟨rfl, rfl⟩ | exact ⟨rfl, rfl⟩
set_option maxRecDepth 1000000 in
set_option maxHeartbeats 4000000 in
theorem tl36 (Q : Exit → Act → World → Prop) (w : World) {bb : Nat} {S : Bs} {fr : Array Value} {c0 c2 c3 c6 c7 c8 c9 c11 c12 c13 c14 c15 c16 c17 c18 : Value} (k : Nat) (hf : Frm 349 [c0, ptr bb, c2, c3, .func (.func 131) #[] #[ptr bb], .func (.func 132) #[] #[ptr bb], c6, c7, c8, c9, .int .i64 k, c11, c12, c13, c14, c15, c16, c17, c18] fr) (hk : k ≤ S.length) (hS : S.length ≤ 20000)
    (hp : ∀ (fr' : Array Value), Frm 349 [c0, ptr bb, c2, c3, .func (.func 131) #[] #[ptr bb], .func (.func 132) #[] #[ptr bb], c6, c7, c8, c9, .int .i64 ((k + 1 : Nat) : Int), c11, c12, c13, c14, c15, c16, c17, c18] fr' → Q .normal ⟨fr', []⟩ w) :
    Code.wp Tryz.prog (tokC [1, 1, 1, 1, 1, 0, 2, 2, 1, 2, 1, 1, 1, 1, 1, 1, 1, 1, 1, 1, 0, 2, 2, 1, 2, 1, 1, 0]) Q ⟨fr, []⟩ w := by
  refine open349 hf ?_
  intros
  conv => arg 2; whnf
  go_wp2
  first | exact hp _ ⟨rfl, rfl⟩ | exact ⟨rfl, rfl⟩
set_option maxRecDepth 1000000 in
set_option maxHeartbeats 4000000 in
theorem tl37 (Q : Exit → Act → World → Prop) (w : World) {bb b0 o0 vc : Nat} {S : Bs} {fr : Array Value} {c0 c2 c3 c6 c7 c8 c9 c11 c12 c13 c14 c15 c16 c17 c18 : Value} (k : Nat) (hf : Frm 349 [c0, ptr bb, c2, c3, .func (.func 131) #[] #[ptr bb], .func (.func 132) #[] #[ptr bb], c6, c7, c8, c9, .int .i64 k, c11, c12, c13, c14, c15, c16, c17, c18] fr) (hsr : Src bb b0 o0 vc S w)
    (hp : ∀ (fr' : Array Value), Frm 349 [c0, ptr bb, c2, c3, .func (.func 131) #[] #[ptr bb], .func (.func 132) #[] #[ptr bb], c6, c7, c8, c9, .int .i64 k, c11, c12, c13, c14, c15, c16, c17, c18] fr' → fr'.getD 224 undef = .bool (tst nb3 S k) → Q .normal ⟨fr', []⟩ w) :
    Code.wp Tryz.prog (tokC [1, 1, 1, 1, 1, 0, 2, 2, 1, 2, 1, 1, 1, 1, 1, 1, 1, 1, 1, 1, 0, 2, 2, 1, 2, 1, 1, 1, 0, 2, 2, 0, 0]) Q ⟨fr, []⟩ w := by
  refine open349 hf ?_
  intros
  conv => arg 2; whnf
  have hx := hsr.box
  by_cases hkl : k < S.length
  · obtain ⟨d, hd⟩ : ∃ d, S[k]? = some d := ⟨_, List.getElem?_eq_getElem hkl⟩
    have hr := hsr.at' k d hd
    rw [tst_in _ hd] at hp
    clear hd hsr
    go_wp2_with fail
    refine (refSpace_any d _).mono ?_
    rintro e w3 ⟨rfl, hw3⟩
    replace hw3 := hw3.symm
    subst hw3
    cases hsp : isSp d with
    | true =>
      have hv : nb3 d = false := by simp [nb3, hsp]
      rw [hv] at hp
      go_wp2
      exact hp _ ⟨rfl, rfl⟩ rfl
    | false =>
      by_cases h47 : d = 47
      · have t47 : ((d.toNat : Int) != 47) = false := by rw [h47]; rfl
        have hv : nb3 d = false := by rw [h47]; rfl
        rw [hv] at hp
        clear h47 hv
        go_wp2
        exact hp _ ⟨rfl, rfl⟩ rfl
      · have t47 : ((d.toNat : Int) != 47) = true := by rw [bne_iff_ne]; intro e; exact h47 (UInt8.toNat_inj.1 (by show d.toNat = 47; omega))
        by_cases h62 : d = 62
        · have t62 : ((d.toNat : Int) != 62) = false := by rw [h62]; rfl
          have hv : nb3 d = false := by rw [h62]; rfl
          rw [hv] at hp
          clear h62 hv
          go_wp2
          exact hp _ ⟨rfl, rfl⟩ rfl
        · have t62 : ((d.toNat : Int) != 62) = true := by rw [bne_iff_ne]; intro e; exact h62 (UInt8.toNat_inj.1 (by show d.toNat = 62; omega))
          by_cases h61 : d = 61
          · have t61 : ((d.toNat : Int) != 61) = false := by rw [h61]; rfl
            have hv : nb3 d = false := by rw [h61]; rfl
            rw [hv] at hp
            clear h61 hv
            go_wp2
            exact hp _ ⟨rfl, rfl⟩ rfl
          · have t61 : ((d.toNat : Int) != 61) = true := by rw [bne_iff_ne]; intro e; exact h61 (UInt8.toNat_inj.1 (by show d.toNat = 61; omega))
            have hv : nb3 d = true := by first | rfl | simp [nb3, hsp, h47, h62, h61]
            rw [hv] at hp
            clear hv h47 h62 h61
            go_wp2
            exact hp _ ⟨rfl, rfl⟩ rfl
  · rw [tst_out _ (by omega)] at hp
    clear hsr
    go_wp2
    exact hp _ ⟨rfl, rfl⟩ rfl
set_option maxRecDepth 1000000 in
set_option maxHeartbeats 4000000 in
theorem tl38 (Q : Exit → Act → World → Prop) (w : World) {bb : Nat} {S : Bs} {fr : Array Value} {c0 c2 c3 c6 c7 c8 c9 c11 c12 c13 c14 c15 c16 c17 c18 : Value} (k : Nat) (hf : Frm 349 [c0, ptr bb, c2, c3, .func (.func 131) #[] #[ptr bb], .func (.func 132) #[] #[ptr bb], c6, c7, c8, c9, .int .i64 k, c11, c12, c13, c14, c15, c16, c17, c18] fr) (hk : k ≤ S.length) (hS : S.length ≤ 20000)
    (hp : ∀ (fr' : Array Value), Frm 349 [c0, ptr bb, c2, c3, .func (.func 131) #[] #[ptr bb], .func (.func 132) #[] #[ptr bb], c6, c7, c8, c9, .int .i64 ((k + 1 : Nat) : Int), c11, c12, c13, c14, c15, c16, c17, c18] fr' → Q .normal ⟨fr', []⟩ w) :
    Code.wp Tryz.prog (tokC [1, 1, 1, 1, 1, 0, 2, 2, 1, 2, 1, 1, 1, 1, 1, 1, 1, 1, 1, 1, 0, 2, 2, 1, 2, 1, 1, 1, 0, 2, 2, 1, 2]) Q ⟨fr, []⟩ w := by
  refine open349 hf ?_
  intros
  conv => arg 2; whnf
  go_wp2
  first | exact hp _ ⟨rfl, rfl⟩ | exact ⟨rfl, rfl⟩
set_option maxRecDepth 1000000 in
set_option maxHeartbeats 4000000 in
theorem tl40 (Q : Exit → Act → World → Prop) (w : World) {bb : Nat} {fr : Array Value} {c0 c2 c3 c6 c7 c8 c9 c11 c12 c13 c14 c15 c16 c17 c18 : Value} (k : Nat) (hf : Frm 349 [c0, ptr bb, c2, c3, .func (.func 131) #[] #[ptr bb], .func (.func 132) #[] #[ptr bb], c6, c7, c8, c9, .int .i64 k, c11, c12, c13, c14, c15, c16, c17, c18] fr)
    (hp : ∀ (fr' : Array Value), Frm 349 [c0, ptr bb, c2, c3, .func (.func 131) #[] #[ptr bb], .func (.func 132) #[] #[ptr bb], c6, c7, c8, c9, .int .i64 k, c11, c12, c13, c14, c15, c16, .int .i64 k, c18] fr' → Q .normal ⟨fr', []⟩ w) :
    Code.wp Tryz.prog (tokC [1, 1, 1, 1, 1, 0, 2, 2, 1, 2, 1, 1, 1, 1, 1, 1, 1, 1, 1, 1, 0, 2, 2, 1, 2, 1, 1, 1, 1, 1, 0]) Q ⟨fr, []⟩ w := by
  refine open349 hf ?_
  intros
  conv => arg 2; whnf
  go_wp2
  first | exact hp _ ⟨rfl, rfl⟩ | exact ⟨rfl, rfl⟩
set_option maxRecDepth 1000000 in
set_option maxHeartbeats 4000000 in
theorem tl41 (Q : Exit → Act → World → Prop) (w : World) {bb b0 o0 vc : Nat} {S : Bs} {fr : Array Value} {c0 c2 c3 c6 c7 c8 c9 c10 c11 c12 c13 c14 c15 c16 c18 : Value} (k : Nat) (hf : Frm 349 [c0, ptr bb, c2, c3, .func (.func 131) #[] #[ptr bb], .func (.func 132) #[] #[ptr bb], c6, c7, c8, c9, c10, c11, c12, c13, c14, c15, c16, .int .i64 k, c18] fr) (hsr : Src bb b0 o0 vc S w)
    (hp : ∀ (fr' : Array Value), Frm 349 [c0, ptr bb, c2, c3, .func (.func 131) #[] #[ptr bb], .func (.func 132) #[] #[ptr bb], c6, c7, c8, c9, c10, c11, c12, c13, c14, c15, c16, .int .i64 k, c18] fr' → fr'.getD 244 undef = .bool (tst isSp S k) → Q .normal ⟨fr', []⟩ w) :
    Code.wp Tryz.prog (tokC [1, 1, 1, 1, 1, 0, 2, 2, 1, 2, 1, 1, 1, 1, 1, 1, 1, 1, 1, 1, 0, 2, 2, 1, 2, 1, 1, 1, 1, 1, 1, 0, 2, 2, 0, 0]) Q ⟨fr, []⟩ w := by
  refine open349 hf ?_
  intros
  conv => arg 2; whnf
  have hx := hsr.box
  by_cases hkl : k < S.length
  · obtain ⟨d, hd⟩ : ∃ d, S[k]? = some d := ⟨_, List.getElem?_eq_getElem hkl⟩
    have hr := hsr.at' k d hd
    rw [tst_in _ hd] at hp
    clear hd hsr
    go_wp2_with fail
    refine (refSpace_any d _).mono ?_
    rintro e w3 ⟨rfl, hw3⟩
    replace hw3 := hw3.symm
    subst hw3
    go_wp2
    exact hp _ ⟨rfl, rfl⟩ rfl
  · rw [tst_out _ (by omega)] at hp
    clear hsr
    go_wp2
    exact hp _ ⟨rfl, rfl⟩ rfl
set_option maxRecDepth 1000000 in
set_option maxHeartbeats 4000000 in
theorem tl42 (Q : Exit → Act → World → Prop) (w : World) {bb : Nat} {S : Bs} {fr : Array Value} {c0 c2 c3 c6 c7 c8 c9 c10 c11 c12 c13 c14 c15 c16 c18 : Value} (k : Nat) (hf : Frm 349 [c0, ptr bb, c2, c3, .func (.func 131) #[] #[ptr bb], .func (.func 132) #[] #[ptr bb], c6, c7, c8, c9, c10, c11, c12, c13, c14, c15, c16, .int .i64 k, c18] fr) (hk : k ≤ S.length) (hS : S.length ≤ 20000)
    (hp : ∀ (fr' : Array Value), Frm 349 [c0, ptr bb, c2, c3, .func (.func 131) #[] #[ptr bb], .func (.func 132) #[] #[ptr bb], c6, c7, c8, c9, c10, c11, c12, c13, c14, c15, c16, .int .i64 ((k + 1 : Nat) : Int), c18] fr' → Q .normal ⟨fr', []⟩ w) :
    Code.wp Tryz.prog (tokC [1, 1, 1, 1, 1, 0, 2, 2, 1, 2, 1, 1, 1, 1, 1, 1, 1, 1, 1, 1, 0, 2, 2, 1, 2, 1, 1, 1, 1, 1, 1, 0, 2, 2, 1, 2]) Q ⟨fr, []⟩ w := by
  refine open349 hf ?_
  intros
  conv => arg 2; whnf
  go_wp2
  first | exact hp _ ⟨rfl, rfl⟩ | exact ⟨rfl, rfl⟩
set_option maxRecDepth 1000000 in
set_option maxHeartbeats 4000000 in
theorem tl44 (Q : Exit → Act → World → Prop) (w : World) {bb : Nat} {S : Bs} {fr : Array Value} {c0 c2 c3 c6 c7 c8 c9 c10 c11 c12 c13 c14 c15 c16 c18 : Value} (k : Nat) (hf : Frm 349 [c0, ptr bb, c2, c3, .func (.func 131) #[] #[ptr bb], .func (.func 132) #[] #[ptr bb], c6, c7, c8, c9, c10, c11, c12, c13, c14, c15, c16, .int .i64 k, c18] fr) (hk : k ≤ S.length) (hS : S.length ≤ 20000)
    (hp : ∀ (fr' : Array Value), Frm 349 [c0, ptr bb, c2, c3, .func (.func 131) #[] #[ptr bb], .func (.func 132) #[] #[ptr bb], c6, c7, c8, c9, c10, c11, c12, c13, c14, c15, c16, .int .i64 ((k + 1 : Nat) : Int), c18] fr' → Q .normal ⟨fr', []⟩ w) :
    Code.wp Tryz.prog (tokC [1, 1, 1, 1, 1, 0, 2, 2, 1, 2, 1, 1, 1, 1, 1, 1, 1, 1, 1, 1, 0, 2, 2, 1, 2, 1, 1, 1, 1, 1, 1, 1, 0, 1, 3, 0]) Q ⟨fr, []⟩ w := by
  refine open349 hf ?_
  intros
  conv => arg 2; whnf
  go_wp2
  first | exact hp _ ⟨rfl, rfl⟩ | exact ⟨rfl, rfl⟩
set_option maxRecDepth 1000000 in
set_option maxHeartbeats 4000000 in
theorem tl45 (Q : Exit → Act → World → Prop) (w : World) {bb b0 o0 vc : Nat} {S : Bs} {fr : Array Value} {c0 c2 c3 c6 c7 c8 c9 c10 c11 c12 c13 c14 c15 c16 c18 : Value} (k : Nat) (hf : Frm 349 [c0, ptr bb, c2, c3, .func (.func 131) #[] #[ptr bb], .func (.func 132) #[] #[ptr bb], c6, c7, c8, c9, c10, c11, c12, c13, c14, c15, c16, .int .i64 k, c18] fr) (hsr : Src bb b0 o0 vc S w)
    (hp : ∀ (fr' : Array Value), Frm 349 [c0, ptr bb, c2, c3, .func (.func 131) #[] #[ptr bb], .func (.func 132) #[] #[ptr bb], c6, c7, c8, c9, c10, c11, c12, c13, c14, c15, c16, .int .i64 k, c18] fr' → fr'.getD 263 undef = .bool (tst isSp S k) → Q .normal ⟨fr', []⟩ w) :
    Code.wp Tryz.prog (tokC [1, 1, 1, 1, 1, 0, 2, 2, 1, 2, 1, 1, 1, 1, 1, 1, 1, 1, 1, 1, 0, 2, 2, 1, 2, 1, 1, 1, 1, 1, 1, 1, 0, 1, 3, 1, 0, 2, 2, 0, 0]) Q ⟨fr, []⟩ w := by
  refine open349 hf ?_
  intros
  conv => arg 2; whnf
  have hx := hsr.box
  by_cases hkl : k < S.length
  · obtain ⟨d, hd⟩ : ∃ d, S[k]? = some d := ⟨_, List.getElem?_eq_getElem hkl⟩
    have hr := hsr.at' k d hd
    rw [tst_in _ hd] at hp
    clear hd hsr
    go_wp2_with fail
    refine (refSpace_any d _).mono ?_
    rintro e w3 ⟨rfl, hw3⟩
    replace hw3 := hw3.symm
    subst hw3
    go_wp2
    exact hp _ ⟨rfl, rfl⟩ rfl
  · rw [tst_out _ (by omega)] at hp
    clear hsr
    go_wp2
    exact hp _ ⟨rfl, rfl⟩ rfl
set_option maxRecDepth 1000000 in
set_option maxHeartbeats 4000000 in
theorem tl46 (Q : Exit → Act → World → Prop) (w : World) {bb : Nat} {S : Bs} {fr : Array Value} {c0 c2 c3 c6 c7 c8 c9 c10 c11 c12 c13 c14 c15 c16 c18 : Value} (k : Nat) (hf : Frm 349 [c0, ptr bb, c2, c3, .func (.func 131) #[] #[ptr bb], .func (.func 132) #[] #[ptr bb], c6, c7, c8, c9, c10, c11, c12, c13, c14, c15, c16, .int .i64 k, c18] fr) (hk : k ≤ S.length) (hS : S.length ≤ 20000)
    (hp : ∀ (fr' : Array Value), Frm 349 [c0, ptr bb, c2, c3, .func (.func 131) #[] #[ptr bb], .func (.func 132) #[] #[ptr bb], c6, c7, c8, c9, c10, c11, c12, c13, c14, c15, c16, .int .i64 ((k + 1 : Nat) : Int), c18] fr' → Q .normal ⟨fr', []⟩ w) :
    Code.wp Tryz.prog (tokC [1, 1, 1, 1, 1, 0, 2, 2, 1, 2, 1, 1, 1, 1, 1, 1, 1, 1, 1, 1, 0, 2, 2, 1, 2, 1, 1, 1, 1, 1, 1, 1, 0, 1, 3, 1, 0, 2, 2, 1, 2]) Q ⟨fr, []⟩ w := by
  refine open349 hf ?_
  intros
  conv => arg 2; whnf
  go_wp2
  first | exact hp _ ⟨rfl, rfl⟩ | exact ⟨rfl, rfl⟩
set_option maxRecDepth 1000000 in
set_option maxHeartbeats 4000000 in
theorem tl53 (Q : Exit → Act → World → Prop) (w : World) {bb : Nat} {fr : Array Value} {c0 c2 c3 c6 c7 c8 c9 c10 c11 c12 c13 c14 c15 c16 c18 : Value} (k : Nat) (hf : Frm 349 [c0, ptr bb, c2, c3, .func (.func 131) #[] #[ptr bb], .func (.func 132) #[] #[ptr bb], c6, c7, c8, c9, c10, c11, c12, c13, c14, c15, c16, .int .i64 k, c18] fr)
    (hp : ∀ (fr' : Array Value), Frm 349 [c0, ptr bb, c2, c3, .func (.func 131) #[] #[ptr bb], .func (.func 132) #[] #[ptr bb], c6, c7, c8, c9, .int .i64 k, c11, c12, c13, c14, c15, c16, .int .i64 k, c18] fr' → Q .normal ⟨fr', []⟩ w) :
    Code.wp Tryz.prog (tokC [1, 1, 1, 1, 1, 0, 2, 2, 1, 2, 1, 1, 1, 1, 1, 1, 1, 1, 1, 1, 0, 2, 2, 1, 2, 1, 1, 1, 1, 1, 1, 1, 0, 1, 3, 1, 1, 1, 1, 4, 0]) Q ⟨fr, []⟩ w := by
  refine open349 hf ?_
  intros
  conv => arg 2; whnf
  go_wp2
  first | exact hp _ ⟨rfl, rfl⟩ | exact ⟨rfl, rfl⟩
set_option maxRecDepth 1000000 in
set_option maxHeartbeats 4000000 in
theorem tl54 (Q : Exit → Act → World → Prop) (w : World) {bb b0 o0 vc : Nat} {S : Bs} {fr : Array Value} {c0 c2 c3 c6 c7 c8 c9 c11 c12 c13 c14 c15 c16 c17 c18 : Value} (k : Nat) (hf : Frm 349 [c0, ptr bb, c2, c3, .func (.func 131) #[] #[ptr bb], .func (.func 132) #[] #[ptr bb], c6, c7, c8, c9, .int .i64 k, c11, c12, c13, c14, c15, c16, c17, c18] fr) (hsr : Src bb b0 o0 vc S w)
    (hp : ∀ (fr' : Array Value), Frm 349 [c0, ptr bb, c2, c3, .func (.func 131) #[] #[ptr bb], .func (.func 132) #[] #[ptr bb], c6, c7, c8, c9, .int .i64 k, c11, c12, c13, c14, c15, c16, c17, c18] fr' → fr'.getD 317 undef = .bool (tst nb1 S k) → Q .normal ⟨fr', []⟩ w) :
    Code.wp Tryz.prog (tokC [1, 1, 1, 1, 1, 0, 2, 2, 1, 2, 1, 1, 1, 1, 1, 1, 1, 1, 1, 1, 0, 2, 2, 1, 2, 1, 1, 1, 1, 1, 1, 1, 0, 1, 3, 1, 1, 1, 1, 4, 1, 0, 2, 2, 0, 0]) Q ⟨fr, []⟩ w := by
  refine open349 hf ?_
  intros
  conv => arg 2; whnf
  have hx := hsr.box
  by_cases hkl : k < S.length
  · obtain ⟨d, hd⟩ : ∃ d, S[k]? = some d := ⟨_, List.getElem?_eq_getElem hkl⟩
    have hr := hsr.at' k d hd
    rw [tst_in _ hd] at hp
    clear hd hsr
    go_wp2_with fail
    refine (refSpace_any d _).mono ?_
    rintro e w3 ⟨rfl, hw3⟩
    replace hw3 := hw3.symm
    subst hw3
    cases hsp : isSp d with
    | true =>
      have hv : nb1 d = false := by simp [nb1, hsp]
      rw [hv] at hp
      go_wp2
      exact hp _ ⟨rfl, rfl⟩ rfl
    | false =>
      by_cases h62 : d = 62
      · have t62 : ((d.toNat : Int) != 62) = false := by rw [h62]; rfl
        have hv : nb1 d = false := by rw [h62]; rfl
        rw [hv] at hp
        clear h62 hv
        go_wp2
        exact hp _ ⟨rfl, rfl⟩ rfl
      · have t62 : ((d.toNat : Int) != 62) = true := by rw [bne_iff_ne]; intro e; exact h62 (UInt8.toNat_inj.1 (by show d.toNat = 62; omega))
        have hv : nb1 d = true := by first | rfl | simp [nb1, hsp, h62]
        rw [hv] at hp
        clear hv h62
        go_wp2
        exact hp _ ⟨rfl, rfl⟩ rfl
  · rw [tst_out _ (by omega)] at hp
    clear hsr
    go_wp2
    exact hp _ ⟨rfl, rfl⟩ rfl
set_option maxRecDepth 1000000 in
set_option maxHeartbeats 4000000 in
theorem tl55 (Q : Exit → Act → World → Prop) (w : World) {bb : Nat} {S : Bs} {fr : Array Value} {c0 c2 c3 c6 c7 c8 c9 c11 c12 c13 c14 c15 c16 c17 c18 : Value} (k : Nat) (hf : Frm 349 [c0, ptr bb, c2, c3, .func (.func 131) #[] #[ptr bb], .func (.func 132) #[] #[ptr bb], c6, c7, c8, c9, .int .i64 k, c11, c12, c13, c14, c15, c16, c17, c18] fr) (hk : k ≤ S.length) (hS : S.length ≤ 20000)
    (hp : ∀ (fr' : Array Value), Frm 349 [c0, ptr bb, c2, c3, .func (.func 131) #[] #[ptr bb], .func (.func 132) #[] #[ptr bb], c6, c7, c8, c9, .int .i64 ((k + 1 : Nat) : Int), c11, c12, c13, c14, c15, c16, c17, c18] fr' → Q .normal ⟨fr', []⟩ w) :
    Code.wp Tryz.prog (tokC [1, 1, 1, 1, 1, 0, 2, 2, 1, 2, 1, 1, 1, 1, 1, 1, 1, 1, 1, 1, 0, 2, 2, 1, 2, 1, 1, 1, 1, 1, 1, 1, 0, 1, 3, 1, 1, 1, 1, 4, 1, 0, 2, 2, 1, 2]) Q ⟨fr, []⟩ w := by
  refine open349 hf ?_
  intros
  conv => arg 2; whnf
  go_wp2
  first | exact hp _ ⟨rfl, rfl⟩ | exact ⟨rfl, rfl⟩
set_option maxRecDepth 1000000 in
set_option maxHeartbeats 4000000 in
theorem tl58 (Q : Exit → Act → World → Prop) (w : World) {bb : Nat} {fr : Array Value} {c0 c2 c3 c6 c7 c8 c9 c10 c11 c12 c13 c14 c15 c17 c18 : Value} (v : Bs) (hf : Frm 349 [c0, ptr bb, c2, c3, .func (.func 131) #[] #[ptr bb], .func (.func 132) #[] #[ptr bb], c6, c7, c8, c9, c10, c11, c12, c13, c14, c15, str v, c17, c18] fr)
    (hp : ∀ (fr' : Array Value), Frm 349 [c0, ptr bb, c2, c3, .func (.func 131) #[] #[ptr bb], .func (.func 132) #[] #[ptr bb], c6, c7, c8, c9, c10, c11, str v, .bool true, c14, c15, str v, c17, c18] fr' → Q .normal ⟨fr', []⟩ w) :
    Code.wp Tryz.prog (tokC [1, 1, 1, 1, 1, 0, 2, 2, 1, 2, 1, 1, 1, 1, 1, 1, 1, 1, 1, 1, 0, 2, 2, 1, 2, 1, 1, 1, 1, 1, 1, 1, 1, 1, 3]) Q ⟨fr, []⟩ w := by
  refine open349 hf ?_
  intros
  conv => arg 2; whnf
  go_wp2
  first | exact hp _ ⟨rfl, rfl⟩ | exact ⟨rfl, rfl⟩
set_option maxRecDepth 1000000 in
set_option maxHeartbeats 4000000 in
theorem tl59 (Q : Exit → Act → World → Prop) (w : World) {bb b0 o0 vc : Nat} {S : Bs} {fr : Array Value} {c0 c2 c3 c6 c7 c8 c9 c11 c12 c13 c14 c15 c16 c17 c18 : Value} (k : Nat) (hf : Frm 349 [c0, ptr bb, c2, c3, .func (.func 131) #[] #[ptr bb], .func (.func 132) #[] #[ptr bb], c6, c7, c8, c9, .int .i64 k, c11, c12, c13, c14, c15, c16, c17, c18] fr) (hsr : Src bb b0 o0 vc S w)
    (hp : ∀ (fr' : Array Value), Frm 349 [c0, ptr bb, c2, c3, .func (.func 131) #[] #[ptr bb], .func (.func 132) #[] #[ptr bb], c6, c7, c8, c9, .int .i64 k, c11, c12, c13, c14, c15, c16, c17, c18] fr' → fr'.getD 335 undef = .bool (decide (S.length ≤ k)) → Q .normal ⟨fr', []⟩ w) :
    Code.wp Tryz.prog (tokC [1, 1, 1, 1, 1, 0, 2, 2, 1, 2, 1, 1, 1, 1, 1, 1, 1, 1, 1, 1, 1, 0, 0]) Q ⟨fr, []⟩ w := by
  refine open349 hf ?_
  intros
  conv => arg 2; whnf
  have hx := hsr.box
  by_cases h : S.length ≤ k
  · rw [decide_eq_true h] at hp
    clear hsr
    go_wp2
    exact hp _ ⟨rfl, rfl⟩ rfl
  · rw [decide_eq_false h] at hp
    clear hsr
    go_wp2
    exact hp _ ⟨rfl, rfl⟩ rfl
set_option maxRecDepth 1000000 in
set_option maxHeartbeats 4000000 in
theorem tl60 (Q : Exit → Act → World → Prop) (w : World) {bb : Nat} {fr : Array Value} {c0 c2 c6 c7 c8 c9 c10 c11 c12 c13 c14 c15 c16 c17 c18 : Value} (v : Value) (hf : Frm 349 [c0, ptr bb, c2, v, .func (.func 131) #[] #[ptr bb], .func (.func 132) #[] #[ptr bb], c6, c7, c8, c9, c10, c11, c12, c13, c14, c15, c16, c17, c18] fr)
    (hp : ∀ (fr' : Array Value), Frm 349 [c0, ptr bb, v, v, .func (.func 131) #[] #[ptr bb], .func (.func 132) #[] #[ptr bb], c6, c7, c8, c9, c10, c11, c12, c13, c14, c15, c16, c17, c18] fr' → Q .normal ⟨fr', []⟩ w) :
    Code.wp Tryz.prog (tokC [1, 1, 1, 1, 1, 0, 2, 2, 1, 2, 1, 1, 1, 1, 1, 1, 1, 1, 1, 1, 1, 0, 1, 3, 0]) Q ⟨fr, []⟩ w := by
  refine open349 hf ?_
  intros
  conv => arg 2; whnf
  go_wp2
  first | exact hp _ ⟨rfl, rfl⟩ | exact ⟨rfl, rfl⟩
set_option maxRecDepth 1000000 in
set_option maxHeartbeats 4000000 in
theorem tl65 (Q : Exit → Act → World → Prop) (w : World) {bb : Nat} {fr : Array Value} {c0 c2 c6 c7 c8 c9 c10 c11 c12 c13 c14 c15 c16 c17 c18 : Value} (v : Value) (hf : Frm 349 [c0, ptr bb, c2, v, .func (.func 131) #[] #[ptr bb], .func (.func 132) #[] #[ptr bb], c6, c7, c8, c9, c10, c11, c12, c13, c14, c15, c16, c17, c18] fr)
    (hp : ∀ (fr' : Array Value), Frm 349 [c0, ptr bb, v, v, .func (.func 131) #[] #[ptr bb], .func (.func 132) #[] #[ptr bb], c6, c7, c8, c9, c10, c11, c12, c13, c14, c15, c16, c17, c18] fr' → Q .normal ⟨fr', []⟩ w) :
    Code.wp Tryz.prog (tokC [1, 1, 1, 1, 1, 1, 0]) Q ⟨fr, []⟩ w := by
  refine open349 hf ?_
  intros
  conv => arg 2; whnf
  go_wp2
  first | exact hp _ ⟨rfl, rfl⟩ | exact ⟨rfl, rfl⟩
set_option maxRecDepth 1000000 in
set_option maxHeartbeats 4000000 in
theorem tl61 (Q : Exit → Act → World → Prop) (w : World) {bb : Nat} {S : Bs} {fr : Array Value} {c0 c2 c3 c6 c7 c8 c9 c11 c12 c13 c14 c15 c16 c17 c18 : Value} (k : Nat) (hf : Frm 349 [c0, ptr bb, c2, c3, .func (.func 131) #[] #[ptr bb], .func (.func 132) #[] #[ptr bb], c6, c7, c8, c9, .int .i64 k, c11, c12, c13, c14, c15, c16, c17, c18] fr) (hk : k ≤ S.length) (hS : S.length ≤ 20000)
    (hp : ∀ (fr' : Array Value), Frm 349 [c0, ptr bb, c2, c3, .func (.func 131) #[] #[ptr bb], .func (.func 132) #[] #[ptr bb], .int .i64 ((k + 1 : Nat) : Int), c7, c8, c9, .int .i64 k, c11, c12, c13, c14, c15, c16, c17, c18] fr' → Q .normal ⟨fr', []⟩ w) :
    Code.wp Tryz.prog (tokC [1, 1, 1, 1, 1, 0, 2, 2, 1, 2, 1, 1, 1, 1, 1, 1, 1, 1, 1, 1, 1, 1, 0, 0]) Q ⟨fr, []⟩ w := by
  refine open349 hf ?_
  intros
  conv => arg 2; whnf
  go_wp2
  first | exact hp _ ⟨rfl, rfl⟩ | exact ⟨rfl, rfl⟩
set_option maxRecDepth 1000000 in
set_option maxHeartbeats 4000000 in
theorem tl62 (Q : Exit → Act → World → Prop) (w : World) {bb : Nat} {fr : Array Value} {c0 c2 c3 c6 c7 c8 c10 c11 c12 c13 c14 c15 c16 c17 c18 : Value} (z : Bool) (hf : Frm 349 [c0, ptr bb, c2, c3, .func (.func 131) #[] #[ptr bb], .func (.func 132) #[] #[ptr bb], c6, c7, c8, .bool z, c10, c11, c12, c13, c14, c15, c16, c17, c18] fr)
    (hp : ∀ (fr' : Array Value), Frm 349 [c0, ptr bb, c2, c3, .func (.func 131) #[] #[ptr bb], .func (.func 132) #[] #[ptr bb], c6, c7, c8, .bool z, c10, c11, c12, c13, c14, c15, c16, c17, c18] fr' → fr'.getD 340 undef = .bool (!z) → Q .normal ⟨fr', []⟩ w) :
    Code.wp Tryz.prog (tokC [1, 1, 1, 1, 1, 0, 2, 2, 1, 2, 1, 1, 1, 1, 1, 1, 1, 1, 1, 1, 1, 1, 0, 1, 0]) Q ⟨fr, []⟩ w := by
  refine open349 hf ?_
  intros
  conv => arg 2; whnf
  go_wp2
  exact hp _ ⟨rfl, rfl⟩ rfl
set_option maxRecDepth 1000000 in
set_option maxHeartbeats 4000000 in
theorem tl48 (Q : Exit → Act → World → Prop) (w : World) {bb : Nat} {fr : Array Value} {c0 c2 c3 c6 c7 c8 c9 c10 c11 c12 c13 c14 c15 c16 c17 : Value} (q : UInt8) (hf : Frm 349 [c0, ptr bb, c2, c3, .func (.func 131) #[] #[ptr bb], .func (.func 132) #[] #[ptr bb], c6, c7, c8, c9, c10, c11, c12, c13, c14, c15, c16, c17, .int .u8 q.toNat] fr)
    (hp : ∀ (fr' : Array Value), Frm 349 [c0, ptr bb, c2, c3, .func (.func 131) #[] #[ptr bb], .func (.func 132) #[] #[ptr bb], c6, c7, c8, c9, c10, c11, c12, c13, c14, c15, c16, c17, .int .u8 q.toNat] fr' → fr'.getD 274 undef = .bool (decide (q = 34 ∨ q = 39)) → Q .normal ⟨fr', []⟩ w) :
    Code.wp Tryz.prog (tokC [1, 1, 1, 1, 1, 0, 2, 2, 1, 2, 1, 1, 1, 1, 1, 1, 1, 1, 1, 1, 0, 2, 2, 1, 2, 1, 1, 1, 1, 1, 1, 1, 0, 1, 3, 1, 1, 1, 0]) Q ⟨fr, []⟩ w := by
  refine open349 hf ?_
  intros
  conv => arg 2; whnf
  by_cases h34 : q = 34
  · have t1 : ((q.toNat : Int) == 34) = true := by rw [h34]; rfl
    rw [decide_eq_true (Or.inl h34)] at hp
    clear h34
    go_wp2
    exact hp _ ⟨rfl, rfl⟩ rfl
  · have t1 : ((q.toNat : Int) == 34) = false := by rw [beq_eq_false_iff_ne]; intro e; exact h34 (UInt8.toNat_inj.1 (by show q.toNat = 34; omega))
    by_cases h39 : q = 39
    · have t2 : ((q.toNat : Int) == 39) = true := by rw [h39]; rfl
      rw [decide_eq_true (Or.inr h39)] at hp
      clear h34 h39
      go_wp2
      exact hp _ ⟨rfl, rfl⟩ rfl
    · have t2 : ((q.toNat : Int) == 39) = false := by rw [beq_eq_false_iff_ne]; intro e; exact h39 (UInt8.toNat_inj.1 (by show q.toNat = 39; omega))
      rw [decide_eq_false (by simp [h34, h39])] at hp
      clear h34 h39
      go_wp2
      exact hp _ ⟨rfl, rfl⟩ rfl
set_option maxRecDepth 1000000 in
set_option maxHeartbeats 4000000 in
theorem tl19 (Q : Exit → Act → World → Prop) (w : World) {bb b0 o0 vc : Nat} {S : Bs} {fr : Array Value} {c0 c2 c3 c7 c8 c9 c10 c11 c12 c13 c14 c15 c16 c17 c18 : Value} (i : Nat) (hf : Frm 349 [c0, ptr bb, c2, c3, .func (.func 131) #[] #[ptr bb], .func (.func 132) #[] #[ptr bb], .int .i64 i, c7, c8, c9, c10, c11, c12, c13, c14, c15, c16, c17, c18] fr) (hsr : Src bb b0 o0 vc S w) (hi : i < S.length) (hS : S.length ≤ 20000)
    (hp : ∀ (fr' : Array Value), Frm 349 [c0, ptr bb, c2, c3, .func (.func 131) #[] #[ptr bb], .func (.func 132) #[] #[ptr bb], .int .i64 i, c7, c8, c9, c10, c11, c12, c13, c14, c15, c16, c17, c18] fr' → fr'.getD 78 undef = .bool (decide (at0 S (i + 1) = 33 ∨ at0 S (i + 1) = 63)) → Q .normal ⟨fr', []⟩ w) :
    Code.wp Tryz.prog (tokC [1, 1, 1, 1, 1, 0, 2, 2, 1, 2, 1, 1, 1, 1, 0, 2, 1, 4, 0]) Q ⟨fr, []⟩ w := by
  refine open349 hf ?_
  intros
  conv => arg 2; whnf
  have hx := hsr.box
  obtain ⟨q, hq⟩ : ∃ q, at0 S (i + 1) = q := ⟨_, rfl⟩
  rw [hq] at hp
  by_cases hl1 : i + 1 < S.length
  · have hr1 := hsr.at' (i + 1) q (by rw [List.getElem?_eq_getElem hl1, ← hq, at0_in (List.getElem?_eq_getElem hl1)])
    clear hq hsr
    by_cases h33 : q = 33
    · have t1 : ((q.toNat : Int) == 33) = true := by rw [h33]; rfl
      rw [decide_eq_true (Or.inl h33)] at hp
      clear h33
      go_wp2
      exact hp _ ⟨rfl, rfl⟩ rfl
    · have t1 : ((q.toNat : Int) == 33) = false := by rw [beq_eq_false_iff_ne]; intro e; exact h33 (UInt8.toNat_inj.1 (by show q.toNat = 33; omega))
      by_cases h63 : q = 63
      · have t2 : ((q.toNat : Int) == 63) = true := by rw [h63]; rfl
        rw [decide_eq_true (Or.inr h63)] at hp
        clear h33 h63
        go_wp2
        exact hp _ ⟨rfl, rfl⟩ rfl
      · have t2 : ((q.toNat : Int) == 63) = false := by rw [beq_eq_false_iff_ne]; intro e; exact h63 (UInt8.toNat_inj.1 (by show q.toNat = 63; omega))
        rw [decide_eq_false (by simp [h33, h63])] at hp
        clear h33 h63
        go_wp2
        exact hp _ ⟨rfl, rfl⟩ rfl
  · have hf0 : decide (q = 33 ∨ q = 63) = false := by rw [← hq, at0_out (by omega)]; rfl
    rw [hf0] at hp
    have hl1' : ¬ ((i : Int) + 1 < (S.length : Int)) := by omega
    clear hq hsr hf0
    go_wp2
    exact hp _ ⟨rfl, rfl⟩ rfl
set_option maxRecDepth 1000000 in
set_option maxHeartbeats 4000000 in
theorem tl57 (Q : Exit → Act → World → Prop) (w : World) {bb : Nat} {fr : Array Value} {c0 c2 c3 c6 c7 c8 c9 c10 c11 c12 c14 c16 c17 c18 : Value} (n : Bs) (z : Bool) (hf : Frm 349 [c0, ptr bb, c2, c3, .func (.func 131) #[] #[ptr bb], .func (.func 132) #[] #[ptr bb], c6, c7, c8, c9, c10, c11, c12, .bool z, c14, str n, c16, c17, c18] fr)
    (hp : ∀ (fr' : Array Value), Frm 349 [c0, ptr bb, c2, c3, .func (.func 131) #[] #[ptr bb], .func (.func 132) #[] #[ptr bb], c6, c7, c8, c9, c10, c11, c12, .bool z, c14, str n, c16, c17, c18] fr' → fr'.getD 330 undef = .bool (decide (n = sHref ∧ z = false)) → Q .normal ⟨fr', []⟩ w) :
    Code.wp Tryz.prog (tokC [1, 1, 1, 1, 1, 0, 2, 2, 1, 2, 1, 1, 1, 1, 1, 1, 1, 1, 1, 1, 0, 2, 2, 1, 2, 1, 1, 1, 1, 1, 1, 1, 1, 0]) Q ⟨fr, []⟩ w := by
  refine open349 hf ?_
  intros
  conv => arg 2; whnf
  by_cases hn : n = sHref
  · have t1 : (n == [104, 114, 101, 102]) = true := by rw [hn]; rfl
    cases z with
    | true =>
      rw [decide_eq_false (by simp)] at hp
      clear hn
      go_wp2
      exact hp _ ⟨rfl, rfl⟩ rfl
    | false =>
      rw [decide_eq_true ⟨hn, rfl⟩] at hp
      clear hn
      go_wp2
      exact hp _ ⟨rfl, rfl⟩ rfl
  · have t1 : (n == [104, 114, 101, 102]) = false := by rw [beq_eq_false_iff_ne]; exact hn
    rw [decide_eq_false (fun h => hn h.1)] at hp
    clear hn
    go_wp2
    exact hp _ ⟨rfl, rfl⟩ rfl
set_option maxRecDepth 1000000 in
set_option maxHeartbeats 4000000 in
theorem tl0 (Q : Exit → Act → World → Prop) (w : World) {fr : Array Value} {c1 c2 c3 c4 c5 c6 c7 c8 c9 c10 c11 c12 c13 c14 c15 c16 c17 c18 : Value} (va : Option Addr) (n vc : Nat) (hf : Frm 349 [.slice va n vc, c1, c2, c3, c4, c5, c6, c7, c8, c9, c10, c11, c12, c13, c14, c15, c16, c17, c18] fr)
    (hp : ∀ (fr' : Array Value), Frm 349 [.slice va n vc, ptr w.heap.size, .slice none 0 0, c3, c4, c5, c6, c7, c8, c9, c10, c11, c12, c13, c14, c15, c16, c17, c18] fr' → Q .normal ⟨fr', []⟩ (w.alloc (.cells #[.slice va n vc] 41))) :
    Code.wp Tryz.prog (tokC [0]) Q ⟨fr, []⟩ w := by
  refine open349 hf ?_
  intros
  conv => arg 2; whnf
  go_wp2
  first | exact hp _ ⟨rfl, rfl⟩ | exact ⟨rfl, rfl⟩
set_option maxRecDepth 1000000 in
set_option maxHeartbeats 4000000 in
theorem tl1 (Q : Exit → Act → World → Prop) (w : World) {bb : Nat} {fr : Array Value} {c0 c2 c3 c4 c5 c6 c7 c8 c9 c10 c11 c12 c13 c14 c15 c16 c17 c18 : Value} (hf : Frm 349 [c0, ptr bb, c2, c3, c4, c5, c6, c7, c8, c9, c10, c11, c12, c13, c14, c15, c16, c17, c18] fr)
    (hp : ∀ (fr' : Array Value), Frm 349 [c0, ptr bb, c2, .slice none 0 0, c4, c5, c6, c7, c8, c9, c10, c11, c12, c13, c14, c15, c16, c17, c18] fr' → Q .normal ⟨fr', []⟩ w) :
    Code.wp Tryz.prog (tokC [1, 0]) Q ⟨fr, []⟩ w := by
  refine open349 hf ?_
  intros
  conv => arg 2; whnf
  go_wp2
  first | exact hp _ ⟨rfl, rfl⟩ | exact ⟨rfl, rfl⟩
set_option maxRecDepth 1000000 in
set_option maxHeartbeats 4000000 in
theorem tl2 (Q : Exit → Act → World → Prop) (w : World) {bb : Nat} {fr : Array Value} {c0 c2 c3 c4 c5 c6 c7 c8 c9 c10 c11 c12 c13 c14 c15 c16 c17 c18 : Value} (hf : Frm 349 [c0, ptr bb, c2, c3, c4, c5, c6, c7, c8, c9, c10, c11, c12, c13, c14, c15, c16, c17, c18] fr)
    (hp : ∀ (fr' : Array Value), Frm 349 [c0, ptr bb, c2, c3, .func (.func 131) #[] #[ptr bb], c5, c6, c7, c8, c9, c10, c11, c12, c13, c14, c15, c16, c17, c18] fr' → Q .normal ⟨fr', []⟩ w) :
    Code.wp Tryz.prog (tokC [1, 1, 0]) Q ⟨fr, []⟩ w := by
  refine open349 hf ?_
  intros
  conv => arg 2; whnf
  go_wp2
  first | exact hp _ ⟨rfl, rfl⟩ | exact ⟨rfl, rfl⟩
set_option maxRecDepth 1000000 in
set_option maxHeartbeats 4000000 in
theorem tl3 (Q : Exit → Act → World → Prop) (w : World) {bb : Nat} {fr : Array Value} {c0 c2 c3 c5 c6 c7 c8 c9 c10 c11 c12 c13 c14 c15 c16 c17 c18 : Value} (hf : Frm 349 [c0, ptr bb, c2, c3, .func (.func 131) #[] #[ptr bb], c5, c6, c7, c8, c9, c10, c11, c12, c13, c14, c15, c16, c17, c18] fr)
    (hp : ∀ (fr' : Array Value), Frm 349 [c0, ptr bb, c2, c3, .func (.func 131) #[] #[ptr bb], .func (.func 132) #[] #[ptr bb], c6, c7, c8, c9, c10, c11, c12, c13, c14, c15, c16, c17, c18] fr' → Q .normal ⟨fr', []⟩ w) :
    Code.wp Tryz.prog (tokC [1, 1, 1, 0]) Q ⟨fr, []⟩ w := by
  refine open349 hf ?_
  intros
  conv => arg 2; whnf
  go_wp2
  first | exact hp _ ⟨rfl, rfl⟩ | exact ⟨rfl, rfl⟩
set_option maxRecDepth 1000000 in
set_option maxHeartbeats 4000000 in
theorem tl4 (Q : Exit → Act → World → Prop) (w : World) {bb : Nat} {fr : Array Value} {c0 c2 c3 c6 c7 c8 c9 c10 c11 c12 c13 c14 c15 c16 c17 c18 : Value} (hf : Frm 349 [c0, ptr bb, c2, c3, .func (.func 131) #[] #[ptr bb], .func (.func 132) #[] #[ptr bb], c6, c7, c8, c9, c10, c11, c12, c13, c14, c15, c16, c17, c18] fr)
    (hp : ∀ (fr' : Array Value), Frm 349 [c0, ptr bb, c2, c3, .func (.func 131) #[] #[ptr bb], .func (.func 132) #[] #[ptr bb], .int .i64 ((0 : Nat) : Int), c7, c8, c9, c10, c11, c12, c13, c14, c15, c16, c17, c18] fr' → Q .normal ⟨fr', []⟩ w) :
    Code.wp Tryz.prog (tokC [1, 1, 1, 1, 0]) Q ⟨fr, []⟩ w := by
  refine open349 hf ?_
  intros
  conv => arg 2; whnf
  go_wp2
  first | exact hp _ ⟨rfl, rfl⟩ | exact ⟨rfl, rfl⟩
set_option maxRecDepth 1000000 in
set_option maxHeartbeats 4000000 in
theorem tl5n (Q : Exit → Act → World → Prop) (w : World) {bb : Nat} {fr : Array Value} {c0 c2 c3 c7 c8 c9 c10 c11 c12 c13 c14 c15 c16 c17 c18 : Value} (va : Option Addr) (vc : Nat) (hf : Frm 349 [c0, ptr bb, c2, c3, .func (.func 131) #[] #[ptr bb], .func (.func 132) #[] #[ptr bb], .int .i64 ((0 : Nat) : Int), c7, c8, c9, c10, c11, c12, c13, c14, c15, c16, c17, c18] fr) (hx : w.cell? ⟨bb, 0, none⟩ = some (.slice va 0 vc))
    (hp : ∀ (fr' : Array Value), Frm 349 [c0, ptr bb, c2, c3, .func (.func 131) #[] #[ptr bb], .func (.func 132) #[] #[ptr bb], .int .i64 ((0 : Nat) : Int), c7, c8, c9, c10, c11, c12, c13, c14, c15, c16, c17, c18] fr' → fr'.getD 24 undef = .bool false → Q .normal ⟨fr', []⟩ w) :
    Code.wp Tryz.prog (tokC [1, 1, 1, 1, 1, 0, 2, 2, 0, 0]) Q ⟨fr, []⟩ w := by
  refine open349 hf ?_
  intros
  conv => arg 2; whnf
  go_wp2
  exact hp _ ⟨rfl, rfl⟩ rfl
end Go.Proofs.YteikncnldbdfmaaGreatDoor
