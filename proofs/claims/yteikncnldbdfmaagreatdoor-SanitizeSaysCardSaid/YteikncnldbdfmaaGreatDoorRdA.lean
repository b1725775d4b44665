/- The reference Read: its frame opened; its regions, one by one. -/
import Derived.Test.YteikncnldbdfmaaGreatDoorFrm
import Derived.Test.YteikncnldbdfmaaGreatDoorRdS
import Derived.Test.YteikncnldbdfmaaGreatDoorLLinkSays
import Derived.Maps.OwnSet
namespace Go.Proofs.YteikncnldbdfmaaGreatDoor
open Go.RowKit Go.Mh
noncomputable def readC (p : List Nat) : Code := pick p (Tryz.f23.body.getD .skip)
set_option maxRecDepth 1000000 in
theorem rdopen28 {P : Program} {c : Code} {Q : Exit → Act → World → Prop} {w : World} {c0 c1 c2 c3 c4 c5 c6 c7 c8 c9 c10 c11 c12 c13 c14 c15 c16 c17 c18 c19 c20 c21 c22 c23 c24 c25 c26 c27 : Value} {fr : Array Value} (hf : Frm 183 [c0, c1, c2, c3, c4, c5, c6, c7, c8, c9, c10, c11, c12, c13, c14, c15, c16, c17, c18, c19, c20, c21, c22, c23, c24, c25, c26, c27] fr)
    (h : ∀ u28 u29 u30 u31 u32 u33 u34 u35 u36 u37 u38 u39 u40 u41 u42 u43 u44 u45 u46 u47 u48 u49 u50 u51 u52 u53 u54 u55 u56 u57 u58 u59 u60 u61 u62 u63 u64 u65 u66 u67 u68 u69 u70 u71 u72 u73 u74 u75 u76 u77 u78 u79 u80 u81 u82 u83 u84 u85 u86 u87 u88 u89 u90 u91 u92 u93 u94 u95 u96 u97 u98 u99 u100 u101 u102 u103 u104 u105 u106 u107 u108 u109 u110 u111 u112 u113 u114 u115 u116 u117 u118 u119 u120 u121 u122 u123 u124 u125 u126 u127 u128 u129 u130 u131 u132 u133 u134 u135 u136 u137 u138 u139 u140 u141 u142 u143 u144 u145 u146 u147 u148 u149 u150 u151 u152 u153 u154 u155 u156 u157 u158 u159 u160 u161 u162 u163 u164 u165 u166 u167 u168 u169 u170 u171 u172 u173 u174 u175 u176 u177 u178 u179 u180 u181 u182 : Value, c.wp P Q ⟨(c0 :: c1 :: c2 :: c3 :: c4 :: c5 :: c6 :: c7 :: c8 :: c9 :: c10 :: c11 :: c12 :: c13 :: c14 :: c15 :: c16 :: c17 :: c18 :: c19 :: c20 :: c21 :: c22 :: c23 :: c24 :: c25 :: c26 :: c27 :: u28 :: u29 :: u30 :: u31 :: u32 :: u33 :: u34 :: u35 :: u36 :: u37 :: u38 :: u39 :: u40 :: u41 :: u42 :: u43 :: u44 :: u45 :: u46 :: u47 :: u48 :: u49 :: u50 :: u51 :: u52 :: u53 :: u54 :: u55 :: u56 :: u57 :: u58 :: u59 :: u60 :: u61 :: u62 :: u63 :: u64 :: u65 :: u66 :: u67 :: u68 :: u69 :: u70 :: u71 :: u72 :: u73 :: u74 :: u75 :: u76 :: u77 :: u78 :: u79 :: u80 :: u81 :: u82 :: u83 :: u84 :: u85 :: u86 :: u87 :: u88 :: u89 :: u90 :: u91 :: u92 :: u93 :: u94 :: u95 :: u96 :: u97 :: u98 :: u99 :: u100 :: u101 :: u102 :: u103 :: u104 :: u105 :: u106 :: u107 :: u108 :: u109 :: u110 :: u111 :: u112 :: u113 :: u114 :: u115 :: u116 :: u117 :: u118 :: u119 :: u120 :: u121 :: u122 :: u123 :: u124 :: u125 :: u126 :: u127 :: u128 :: u129 :: u130 :: u131 :: u132 :: u133 :: u134 :: u135 :: u136 :: u137 :: u138 :: u139 :: u140 :: u141 :: u142 :: u143 :: u144 :: u145 :: u146 :: u147 :: u148 :: u149 :: u150 :: u151 :: u152 :: u153 :: u154 :: u155 :: u156 :: u157 :: u158 :: u159 :: u160 :: u161 :: u162 :: u163 :: u164 :: u165 :: u166 :: u167 :: u168 :: u169 :: u170 :: u171 :: u172 :: u173 :: u174 :: u175 :: u176 :: u177 :: u178 :: u179 :: u180 :: u181 :: u182 :: []).toArray, []⟩ w) : c.wp P Q ⟨fr, []⟩ w := by
  rw [hf.rest]
  exact h _ _ _ _ _ _ _ _ _ _ _ _ _ _ _ _ _ _ _ _ _ _ _ _ _ _ _ _ _ _ _ _ _ _ _ _ _ _ _ _ _ _ _ _ _ _ _ _ _ _ _ _ _ _ _ _ _ _ _ _ _ _ _ _ _ _ _ _ _ _ _ _ _ _ _ _ _ _ _ _ _ _ _ _ _ _ _ _ _ _ _ _ _ _ _ _ _ _ _ _ _ _ _ _ _ _ _ _ _ _ _ _ _ _ _ _ _ _ _ _ _ _ _ _ _ _ _ _ _ _ _ _ _ _ _ _ _ _ _ _ _ _ _ _ _ _ _ _ _ _ _ _ _ _ _
set_option maxRecDepth 1000000 in
theorem rdopen58 {P : Program} {c : Code} {Q : Exit → Act → World → Prop} {w : World} {c0 c1 c2 c3 c4 c5 c6 c7 c8 c9 c10 c11 c12 c13 c14 c15 c16 c17 c18 c19 c20 c21 c22 c23 c24 c25 c26 c27 c28 c29 c30 c31 c32 c33 c34 c35 c36 c37 c38 c39 c40 c41 c42 c43 c44 c45 c46 c47 c48 c49 c50 c51 c52 c53 c54 c55 c56 c57 : Value} {fr : Array Value} (hf : Frm 183 [c0, c1, c2, c3, c4, c5, c6, c7, c8, c9, c10, c11, c12, c13, c14, c15, c16, c17, c18, c19, c20, c21, c22, c23, c24, c25, c26, c27, c28, c29, c30, c31, c32, c33, c34, c35, c36, c37, c38, c39, c40, c41, c42, c43, c44, c45, c46, c47, c48, c49, c50, c51, c52, c53, c54, c55, c56, c57] fr)
    (h : ∀ u58 u59 u60 u61 u62 u63 u64 u65 u66 u67 u68 u69 u70 u71 u72 u73 u74 u75 u76 u77 u78 u79 u80 u81 u82 u83 u84 u85 u86 u87 u88 u89 u90 u91 u92 u93 u94 u95 u96 u97 u98 u99 u100 u101 u102 u103 u104 u105 u106 u107 u108 u109 u110 u111 u112 u113 u114 u115 u116 u117 u118 u119 u120 u121 u122 u123 u124 u125 u126 u127 u128 u129 u130 u131 u132 u133 u134 u135 u136 u137 u138 u139 u140 u141 u142 u143 u144 u145 u146 u147 u148 u149 u150 u151 u152 u153 u154 u155 u156 u157 u158 u159 u160 u161 u162 u163 u164 u165 u166 u167 u168 u169 u170 u171 u172 u173 u174 u175 u176 u177 u178 u179 u180 u181 u182 : Value, c.wp P Q ⟨(c0 :: c1 :: c2 :: c3 :: c4 :: c5 :: c6 :: c7 :: c8 :: c9 :: c10 :: c11 :: c12 :: c13 :: c14 :: c15 :: c16 :: c17 :: c18 :: c19 :: c20 :: c21 :: c22 :: c23 :: c24 :: c25 :: c26 :: c27 :: c28 :: c29 :: c30 :: c31 :: c32 :: c33 :: c34 :: c35 :: c36 :: c37 :: c38 :: c39 :: c40 :: c41 :: c42 :: c43 :: c44 :: c45 :: c46 :: c47 :: c48 :: c49 :: c50 :: c51 :: c52 :: c53 :: c54 :: c55 :: c56 :: c57 :: u58 :: u59 :: u60 :: u61 :: u62 :: u63 :: u64 :: u65 :: u66 :: u67 :: u68 :: u69 :: u70 :: u71 :: u72 :: u73 :: u74 :: u75 :: u76 :: u77 :: u78 :: u79 :: u80 :: u81 :: u82 :: u83 :: u84 :: u85 :: u86 :: u87 :: u88 :: u89 :: u90 :: u91 :: u92 :: u93 :: u94 :: u95 :: u96 :: u97 :: u98 :: u99 :: u100 :: u101 :: u102 :: u103 :: u104 :: u105 :: u106 :: u107 :: u108 :: u109 :: u110 :: u111 :: u112 :: u113 :: u114 :: u115 :: u116 :: u117 :: u118 :: u119 :: u120 :: u121 :: u122 :: u123 :: u124 :: u125 :: u126 :: u127 :: u128 :: u129 :: u130 :: u131 :: u132 :: u133 :: u134 :: u135 :: u136 :: u137 :: u138 :: u139 :: u140 :: u141 :: u142 :: u143 :: u144 :: u145 :: u146 :: u147 :: u148 :: u149 :: u150 :: u151 :: u152 :: u153 :: u154 :: u155 :: u156 :: u157 :: u158 :: u159 :: u160 :: u161 :: u162 :: u163 :: u164 :: u165 :: u166 :: u167 :: u168 :: u169 :: u170 :: u171 :: u172 :: u173 :: u174 :: u175 :: u176 :: u177 :: u178 :: u179 :: u180 :: u181 :: u182 :: []).toArray, []⟩ w) : c.wp P Q ⟨fr, []⟩ w := by
  rw [hf.rest]
  exact h _ _ _ _ _ _ _ _ _ _ _ _ _ _ _ _ _ _ _ _ _ _ _ _ _ _ _ _ _ _ _ _ _ _ _ _ _ _ _ _ _ _ _ _ _ _ _ _ _ _ _ _ _ _ _ _ _ _ _ _ _ _ _ _ _ _ _ _ _ _ _ _ _ _ _ _ _ _ _ _ _ _ _ _ _ _ _ _ _ _ _ _ _ _ _ _ _ _ _ _ _ _ _ _ _ _ _ _ _ _ _ _ _ _ _ _ _ _ _ _ _ _ _ _ _
set_option maxRecDepth 1000000 in
set_option maxHeartbeats 4000000 in
theorem rd0 (Q : Exit → Act → World → Prop) (w : World) {fr : Array Value} {c0 c1 c2 c3 c4 c5 c6 c7 c8 c9 c10 c11 c12 c13 c14 c15 c16 c17 c18 c19 c20 c21 c22 c23 c24 c25 c26 c27 : Value} (hf : Frm 183 [c0, c1, c2, c3, c4, c5, c6, c7, c8, c9, c10, c11, c12, c13, c14, c15, c16, c17, c18, c19, c20, c21, c22, c23, c24, c25, c26, c27] fr)
    (hp : ∀ (fr' : Array Value), Frm 183 [c0, c1, .slice none 0 0, .int .i64 0, c4, c5, c6, c7, c8, c9, c10, c11, c12, c13, c14, c15, c16, c17, c18, c19, c20, c21, c22, c23, c24, c25, c26, c27] fr' → Q .normal ⟨fr', []⟩ w) :
    Code.wp Tryz.prog (readC [0]) Q ⟨fr, []⟩ w := by
  refine rdopen28 hf ?_
  intros
  conv => arg 2; whnf
  go_wp2
  first | exact hp _ ⟨rfl, rfl⟩ | exact ⟨rfl, rfl⟩
set_option maxRecDepth 1000000 in
set_option maxHeartbeats 4000000 in
theorem rd2 (Q : Exit → Act → World → Prop) (w : World) {fr : Array Value} {c0 c1 c2 c3 c4 c5 c6 c7 c8 c9 c10 c11 c12 c13 c14 c15 c16 c17 c18 c19 c20 c21 c22 c23 c24 c25 c26 c27 : Value} (hf : Frm 183 [c0, c1, c2, c3, c4, c5, c6, c7, c8, c9, c10, c11, c12, c13, c14, c15, c16, c17, c18, c19, c20, c21, c22, c23, c24, c25, c26, c27] fr)
    (hp : ∀ (fr' : Array Value), Frm 183 [c0, c1, c2, c3, c4, ptr w.heap.size, c6, c7, c8, c9, c10, c11, c12, c13, c14, c15, c16, c17, c18, c19, c20, c21, c22, c23, c24, c25, c26, c27] fr' → Q .normal ⟨fr', []⟩ (w.alloc (.cells #[.slice none 0 0] 23))) :
    Code.wp Tryz.prog (readC [1, 1, 0]) Q ⟨fr, []⟩ w := by
  refine rdopen28 hf ?_
  intros
  conv => arg 2; whnf
  go_wp2
  first | exact hp _ ⟨rfl, rfl⟩ | exact ⟨rfl, rfl⟩
set_option maxRecDepth 1000000 in
set_option maxHeartbeats 4000000 in
theorem rd3 (Q : Exit → Act → World → Prop) (w : World) {b5 : Nat} {fr : Array Value} {c0 c1 c2 c3 c4 c6 c7 c8 c9 c10 c11 c12 c13 c14 c15 c16 c17 c18 c19 c20 c21 c22 c23 c24 c25 c26 c27 : Value} (hf : Frm 183 [c0, c1, c2, c3, c4, ptr b5, c6, c7, c8, c9, c10, c11, c12, c13, c14, c15, c16, c17, c18, c19, c20, c21, c22, c23, c24, c25, c26, c27] fr)
    (hp : ∀ (fr' : Array Value), Frm 183 [c0, c1, c2, c3, c4, ptr b5, .int .i64 0, .int .i64 0, ptr w.heap.size, c9, c10, c11, c12, c13, c14, c15, c16, c17, c18, c19, c20, c21, c22, c23, c24, c25, c26, c27] fr' → Q .normal ⟨fr', []⟩ (w.alloc (.cells #[.int .i64 0] 3))) :
    Code.wp Tryz.prog (readC [1, 1, 1, 0]) Q ⟨fr, []⟩ w := by
  refine rdopen28 hf ?_
  intros
  conv => arg 2; whnf
  go_wp2
  first | exact hp _ ⟨rfl, rfl⟩ | exact ⟨rfl, rfl⟩
set_option maxRecDepth 1000000 in
set_option maxHeartbeats 4000000 in
theorem rd4 (Q : Exit → Act → World → Prop) (w : World) {b5 b8 : Nat} {fr : Array Value} {c0 c1 c2 c3 c4 c6 c7 c9 c10 c11 c12 c13 c14 c15 c16 c17 c18 c19 c20 c21 c22 c23 c24 c25 c26 c27 : Value} (hf : Frm 183 [c0, c1, c2, c3, c4, ptr b5, c6, c7, ptr b8, c9, c10, c11, c12, c13, c14, c15, c16, c17, c18, c19, c20, c21, c22, c23, c24, c25, c26, c27] fr)
    (hp : ∀ (fr' : Array Value), Frm 183 [c0, c1, c2, c3, c4, ptr b5, c6, c7, ptr b8, str [], str [], ptr w.heap.size, c12, c13, c14, c15, c16, c17, c18, c19, c20, c21, c22, c23, c24, c25, c26, c27] fr' → Q .normal ⟨fr', []⟩ (w.alloc (.cells #[.bool false] 4))) :
    Code.wp Tryz.prog (readC [1, 1, 1, 1, 0]) Q ⟨fr, []⟩ w := by
  refine rdopen28 hf ?_
  intros
  conv => arg 2; whnf
  go_wp2
  first | exact hp _ ⟨rfl, rfl⟩ | exact ⟨rfl, rfl⟩
set_option maxRecDepth 1000000 in
set_option maxHeartbeats 4000000 in
theorem rd5 (Q : Exit → Act → World → Prop) (w : World) {b5 b8 b11 : Nat} {fr : Array Value} {c0 c1 c2 c3 c4 c6 c7 c9 c10 c12 c13 c14 c15 c16 c17 c18 c19 c20 c21 c22 c23 c24 c25 c26 c27 : Value} (hf : Frm 183 [c0, c1, c2, c3, c4, ptr b5, c6, c7, ptr b8, c9, c10, ptr b11, c12, c13, c14, c15, c16, c17, c18, c19, c20, c21, c22, c23, c24, c25, c26, c27] fr)
    (hp : ∀ (fr' : Array Value), Frm 183 [c0, c1, c2, c3, c4, ptr b5, c6, c7, ptr b8, c9, c10, ptr b11, .func (.func 76) #[] #[ptr b11, ptr b5, ptr b8], c13, c14, c15, c16, c17, c18, c19, c20, c21, c22, .func (.func 76) #[] #[ptr b11, ptr b5, ptr b8], c24, c25, c26, c27] fr' → Q .normal ⟨fr', []⟩ w) :
    Code.wp Tryz.prog (readC [1, 1, 1, 1, 1, 0]) Q ⟨fr, []⟩ w := by
  refine rdopen28 hf ?_
  intros
  conv => arg 2; whnf
  go_wp2
  first | exact hp _ ⟨rfl, rfl⟩ | exact ⟨rfl, rfl⟩
set_option maxRecDepth 1000000 in
set_option maxHeartbeats 4000000 in
theorem rd7 (Q : Exit → Act → World → Prop) (w : World) {b5 b8 b11 : Nat} {fr : Array Value} {c0 c1 c2 c3 c4 c6 c7 c9 c10 c13 c14 c15 c16 c17 c18 c19 c20 c21 c22 c23 c24 c25 : Value} (i n : Nat) (hf : Frm 183 [c0, c1, c2, c3, c4, ptr b5, c6, c7, ptr b8, c9, c10, ptr b11, .func (.func 76) #[] #[ptr b11, ptr b5, ptr b8], c13, c14, c15, c16, c17, c18, c19, c20, c21, c22, c23, c24, c25, .int .i64 (n : Int), .int .i64 (i : Int)] fr)
    (hp : ∀ (fr' : Array Value), Frm 183 [c0, c1, c2, c3, c4, ptr b5, c6, c7, ptr b8, c9, c10, ptr b11, .func (.func 76) #[] #[ptr b11, ptr b5, ptr b8], c13, c14, c15, c16, c17, c18, c19, c20, c21, c22, c23, c24, c25, .int .i64 (n : Int), .int .i64 (i : Int)] fr' → fr'.getD 28 undef = .bool (decide (i < n)) → Q .normal ⟨fr', []⟩ w) :
    Code.wp Tryz.prog (readC [1, 1, 1, 1, 1, 1, 0, 1, 2, 2, 0]) Q ⟨fr, []⟩ w := by
  refine rdopen28 hf ?_
  intros
  conv => arg 2; whnf
  by_cases h : i < n
  · rw [decide_eq_true h] at hp
    go_wp2
    exact hp _ ⟨rfl, rfl⟩ rfl
  · rw [decide_eq_false h] at hp
    go_wp2
    exact hp _ ⟨rfl, rfl⟩ rfl
set_option maxRecDepth 1000000 in
set_option maxHeartbeats 4000000 in
theorem rd8 (Q : Exit → Act → World → Prop) (w : World) {b5 b8 b11 : Nat} {fr : Array Value} {c0 c1 c2 c3 c4 c6 c7 c9 c10 c13 c14 c15 c16 c17 c18 c19 c20 c21 c22 c23 c24 c26 : Value} (tb tofs n tc i : Nat) (tk : Int) (nm tx hr : Bs) (hf : Frm 183 [c0, c1, c2, c3, c4, ptr b5, c6, c7, ptr b8, c9, c10, ptr b11, .func (.func 76) #[] #[ptr b11, ptr b5, ptr b8], c13, c14, c15, c16, c17, c18, c19, c20, c21, c22, c23, c24, .slice (some ⟨tb, tofs, none⟩) n tc, c26, .int .i64 (i : Int)] fr) (hlt : i < n) (q0 : w.cell? ⟨tb, tofs + i * 4, none⟩ = some (.int .i64 tk)) (q1 : w.cell? ⟨tb, tofs + i * 4 + 1, none⟩ = some (str nm)) (q2 : w.cell? ⟨tb, tofs + i * 4 + 2, none⟩ = some (str tx)) (q3 : w.cell? ⟨tb, tofs + i * 4 + 3, none⟩ = some (str hr))
    (hp : ∀ (fr' : Array Value), Frm 183 [c0, c1, c2, c3, c4, ptr b5, c6, c7, ptr b8, c9, c10, ptr b11, .func (.func 76) #[] #[ptr b11, ptr b5, ptr b8], c13, ptr w.heap.size, c15, c16, c17, c18, c19, c20, c21, c22, c23, c24, .slice (some ⟨tb, tofs, none⟩) n tc, c26, .int .i64 (i : Int)] fr' → Q .normal ⟨fr', []⟩ (w.alloc (.cells #[.int .i64 tk, str nm, str tx, str hr] 115))) :
    Code.wp Tryz.prog (readC [1, 1, 1, 1, 1, 1, 0, 1, 2, 2, 1, 1, 0, 2, 0]) Q ⟨fr, []⟩ w := by
  refine rdopen28 hf ?_
  intros
  conv => arg 2; whnf
  go_wp2
  first | exact hp _ ⟨rfl, rfl⟩ | exact ⟨rfl, rfl⟩
set_option maxRecDepth 1000000 in
set_option maxHeartbeats 4000000 in
theorem rd10 (Q : Exit → Act → World → Prop) (w : World) {b5 b8 b11 : Nat} {fr : Array Value} {c0 c1 c2 c3 c4 c6 c7 c9 c13 c14 c15 c16 c17 c18 c19 c20 c21 c22 c23 c24 c25 c26 c27 : Value} (gn : Bs) (hf : Frm 183 [c0, c1, c2, c3, c4, ptr b5, c6, c7, ptr b8, c9, str gn, ptr b11, .func (.func 76) #[] #[ptr b11, ptr b5, ptr b8], c13, c14, c15, c16, c17, c18, c19, c20, c21, c22, c23, c24, c25, c26, c27] fr)
    (hp : ∀ (fr' : Array Value), Frm 183 [c0, c1, c2, c3, c4, ptr b5, c6, c7, ptr b8, c9, str gn, ptr b11, .func (.func 76) #[] #[ptr b11, ptr b5, ptr b8], c13, c14, c15, c16, c17, c18, c19, c20, c21, c22, c23, c24, c25, c26, c27] fr' → fr'.getD 38 undef = .bool (decide (gn ≠ [])) → Q .normal ⟨fr', []⟩ w) :
    Code.wp Tryz.prog (readC [1, 1, 1, 1, 1, 1, 0, 1, 2, 2, 1, 1, 0, 2, 1, 1, 0, 2, 0]) Q ⟨fr, []⟩ w := by
  refine rdopen28 hf ?_
  intros
  conv => arg 2; whnf
  cases gn with
  | nil =>
    go_wp2
    exact hp _ ⟨rfl, rfl⟩ rfl
  | cons x y =>
    go_wp2
    exact hp _ ⟨rfl, rfl⟩ rfl
set_option maxRecDepth 1000000 in
set_option maxHeartbeats 4000000 in
theorem rd11 (Q : Exit → Act → World → Prop) (w : World) {b5 b8 b11 : Nat} {fr : Array Value} {c0 c1 c2 c3 c4 c6 c7 c9 c13 c15 c16 c17 c18 c19 c20 c21 c22 c23 c24 c25 c26 c27 : Value} (g : Nat) (tk : Int) (nm tx hr : Bs) (gn : Bs) (hf : Frm 183 [c0, c1, c2, c3, c4, ptr b5, c6, c7, ptr b8, c9, str gn, ptr b11, .func (.func 76) #[] #[ptr b11, ptr b5, ptr b8], c13, ptr g, c15, c16, c17, c18, c19, c20, c21, c22, c23, c24, c25, c26, c27] fr) (hT : w.heap[g]? = some (.cells #[.int .i64 tk, str nm, str tx, str hr] 115 (0, 0)))
    (hp : ∀ (fr' : Array Value), Frm 183 [c0, c1, c2, c3, c4, ptr b5, c6, c7, ptr b8, c9, str gn, ptr b11, .func (.func 76) #[] #[ptr b11, ptr b5, ptr b8], c13, ptr g, c15, c16, c17, c18, c19, c20, c21, c22, c23, c24, c25, c26, c27] fr' → fr'.getD 49 undef = .bool (decide (tk = 3 ∧ nm = gn)) → Q .normal ⟨fr', []⟩ w) :
    Code.wp Tryz.prog (readC [1, 1, 1, 1, 1, 1, 0, 1, 2, 2, 1, 1, 0, 2, 1, 1, 0, 2, 1, 3, 0]) Q ⟨fr, []⟩ w := by
  refine rdopen28 hf ?_
  intros
  conv => arg 2; whnf
  have q0 := cellAt' (i := 0) hT rfl
  have q1 := cellAt' (i := 1) hT rfl
  by_cases h : tk = 3
  · subst h
    by_cases h2 : nm = gn
    · have t2 : (nm == gn) = true := by rw [h2]; exact beq_self_eq_true _
      rw [decide_eq_true ⟨rfl, h2⟩] at hp
      clear h2
      go_wp2
      exact hp _ ⟨rfl, rfl⟩ rfl
    · have t2 : (nm == gn) = false := by rw [beq_eq_false_iff_ne]; exact h2
      rw [decide_eq_false (fun x => h2 x.2)] at hp
      clear h2
      go_wp2
      exact hp _ ⟨rfl, rfl⟩ rfl
  · have t1 : (tk == 3) = false := by simpa using h
    rw [decide_eq_false (fun x => h x.1)] at hp
    clear h
    go_wp2
    exact hp _ ⟨rfl, rfl⟩ rfl
set_option maxRecDepth 1000000 in
set_option maxHeartbeats 4000000 in
theorem rd12 (Q : Exit → Act → World → Prop) (w : World) {b5 b8 b11 : Nat} {fr : Array Value} {c0 c1 c2 c3 c4 c6 c7 c9 c10 c13 c14 c15 c16 c17 c18 c19 c20 c21 c22 c23 c24 c25 c26 c27 : Value} (hf : Frm 183 [c0, c1, c2, c3, c4, ptr b5, c6, c7, ptr b8, c9, c10, ptr b11, .func (.func 76) #[] #[ptr b11, ptr b5, ptr b8], c13, c14, c15, c16, c17, c18, c19, c20, c21, c22, c23, c24, c25, c26, c27] fr)
    (hp : ∀ (fr' : Array Value), Frm 183 [c0, c1, c2, c3, c4, ptr b5, c6, c7, ptr b8, c9, str [], ptr b11, .func (.func 76) #[] #[ptr b11, ptr b5, ptr b8], c13, c14, c15, c16, c17, c18, c19, c20, c21, c22, c23, c24, c25, c26, c27] fr' → Q .normal ⟨fr', []⟩ w) :
    Code.wp Tryz.prog (readC [1, 1, 1, 1, 1, 1, 0, 1, 2, 2, 1, 1, 0, 2, 1, 1, 0, 2, 1, 3, 1, 3]) Q ⟨fr, []⟩ w := by
  refine rdopen28 hf ?_
  intros
  conv => arg 2; whnf
  go_wp2
  first | exact hp _ ⟨rfl, rfl⟩ | exact ⟨rfl, rfl⟩
set_option maxRecDepth 1000000 in
set_option maxHeartbeats 4000000 in
theorem rd13 (Q : Exit → Act → World → Prop) (w : World) {b5 b8 b11 : Nat} {fr : Array Value} {c0 c1 c2 c3 c4 c6 c7 c9 c10 c13 c15 c16 c17 c18 c19 c20 c21 c22 c23 c24 c25 c26 c27 : Value} (g : Nat) (tk : Int) (nm tx hr : Bs) (hf : Frm 183 [c0, c1, c2, c3, c4, ptr b5, c6, c7, ptr b8, c9, c10, ptr b11, .func (.func 76) #[] #[ptr b11, ptr b5, ptr b8], c13, ptr g, c15, c16, c17, c18, c19, c20, c21, c22, c23, c24, c25, c26, c27] fr) (hT : w.heap[g]? = some (.cells #[.int .i64 tk, str nm, str tx, str hr] 115 (0, 0)))
    (hp : ∀ (fr' : Array Value), Frm 183 [c0, c1, c2, c3, c4, ptr b5, c6, c7, ptr b8, c9, c10, ptr b11, .func (.func 76) #[] #[ptr b11, ptr b5, ptr b8], c13, ptr g, c15, c16, c17, c18, c19, c20, c21, c22, c23, c24, c25, c26, c27] fr' → fr'.getD 50 undef = .bool (decide (tk = 1)) → Q .normal ⟨fr', []⟩ w) :
    Code.wp Tryz.prog (readC [1, 1, 1, 1, 1, 1, 0, 1, 2, 2, 1, 1, 0, 2, 1, 1, 0, 2, 1, 4, 0]) Q ⟨fr, []⟩ w := by
  refine rdopen28 hf ?_
  intros
  conv => arg 2; whnf
  have q0 := cellAt' (i := 0) hT rfl
  by_cases h : tk = 1
  · subst h
    go_wp2
    exact hp _ ⟨rfl, rfl⟩ rfl
  · have t1 : (tk == 1) = false := by simpa using h
    rw [decide_eq_false h] at hp
    clear h
    go_wp2
    exact hp _ ⟨rfl, rfl⟩ rfl
set_option maxRecDepth 1000000 in
set_option maxHeartbeats 4000000 in
theorem rd29 (Q : Exit → Act → World → Prop) (w : World) {b5 b8 b11 : Nat} {fr : Array Value} {c0 c1 c2 c3 c4 c6 c7 c9 c10 c13 c15 c16 c17 c18 c19 c20 c21 c22 c23 c24 c25 c26 c27 : Value} (g : Nat) (tk : Int) (nm tx hr : Bs) (hf : Frm 183 [c0, c1, c2, c3, c4, ptr b5, c6, c7, ptr b8, c9, c10, ptr b11, .func (.func 76) #[] #[ptr b11, ptr b5, ptr b8], c13, ptr g, c15, c16, c17, c18, c19, c20, c21, c22, c23, c24, c25, c26, c27] fr) (hT : w.heap[g]? = some (.cells #[.int .i64 tk, str nm, str tx, str hr] 115 (0, 0)))
    (hp : ∀ (fr' : Array Value), Frm 183 [c0, c1, c2, c3, c4, ptr b5, c6, c7, ptr b8, c9, c10, ptr b11, .func (.func 76) #[] #[ptr b11, ptr b5, ptr b8], c13, ptr g, c15, c16, c17, c18, c19, c20, c21, c22, c23, c24, c25, c26, c27] fr' → fr'.getD 93 undef = .bool (decide (tk = 4)) → Q .normal ⟨fr', []⟩ w) :
    Code.wp Tryz.prog (readC [1, 1, 1, 1, 1, 1, 0, 1, 2, 2, 1, 1, 0, 2, 1, 1, 0, 2, 1, 4, 1, 4, 0]) Q ⟨fr, []⟩ w := by
  refine rdopen28 hf ?_
  intros
  conv => arg 2; whnf
  have q0 := cellAt' (i := 0) hT rfl
  by_cases h : tk = 4
  · subst h
    go_wp2
    exact hp _ ⟨rfl, rfl⟩ rfl
  · have t1 : (tk == 4) = false := by simpa using h
    rw [decide_eq_false h] at hp
    clear h
    go_wp2
    exact hp _ ⟨rfl, rfl⟩ rfl
set_option maxRecDepth 1000000 in
set_option maxHeartbeats 4000000 in
theorem rd32 (Q : Exit → Act → World → Prop) (w : World) {b5 b8 b11 : Nat} {fr : Array Value} {c0 c1 c2 c3 c4 c6 c7 c9 c10 c13 c15 c16 c17 c18 c19 c20 c21 c22 c23 c24 c25 c26 c27 : Value} (g : Nat) (tk : Int) (nm tx hr : Bs) (hf : Frm 183 [c0, c1, c2, c3, c4, ptr b5, c6, c7, ptr b8, c9, c10, ptr b11, .func (.func 76) #[] #[ptr b11, ptr b5, ptr b8], c13, ptr g, c15, c16, c17, c18, c19, c20, c21, c22, c23, c24, c25, c26, c27] fr) (hT : w.heap[g]? = some (.cells #[.int .i64 tk, str nm, str tx, str hr] 115 (0, 0)))
    (hp : ∀ (fr' : Array Value), Frm 183 [c0, c1, c2, c3, c4, ptr b5, c6, c7, ptr b8, c9, c10, ptr b11, .func (.func 76) #[] #[ptr b11, ptr b5, ptr b8], c13, ptr g, c15, c16, c17, c18, c19, c20, c21, c22, c23, c24, c25, c26, c27] fr' → fr'.getD 103 undef = .bool (decide (tk = 2)) → Q .normal ⟨fr', []⟩ w) :
    Code.wp Tryz.prog (readC [1, 1, 1, 1, 1, 1, 0, 1, 2, 2, 1, 1, 0, 2, 1, 1, 0, 2, 1, 4, 1, 4, 1, 4, 1, 3, 1, 0]) Q ⟨fr, []⟩ w := by
  refine rdopen28 hf ?_
  intros
  conv => arg 2; whnf
  have q0 := cellAt' (i := 0) hT rfl
  by_cases h : tk = 2
  · subst h
    go_wp2
    exact hp _ ⟨rfl, rfl⟩ rfl
  · have t1 : (tk == 2) = false := by simpa using h
    rw [decide_eq_false h] at hp
    clear h
    go_wp2
    exact hp _ ⟨rfl, rfl⟩ rfl
set_option maxRecDepth 1000000 in
set_option maxHeartbeats 4000000 in
theorem rd40 (Q : Exit → Act → World → Prop) (w : World) {b5 b8 b11 : Nat} {fr : Array Value} {c0 c1 c2 c3 c4 c6 c7 c9 c10 c13 c15 c16 c17 c18 c19 c20 c21 c22 c23 c24 c25 c26 c27 : Value} (g : Nat) (tk : Int) (nm tx hr : Bs) (hf : Frm 183 [c0, c1, c2, c3, c4, ptr b5, c6, c7, ptr b8, c9, c10, ptr b11, .func (.func 76) #[] #[ptr b11, ptr b5, ptr b8], c13, ptr g, c15, c16, c17, c18, c19, c20, c21, c22, c23, c24, c25, c26, c27] fr) (hT : w.heap[g]? = some (.cells #[.int .i64 tk, str nm, str tx, str hr] 115 (0, 0)))
    (hp : ∀ (fr' : Array Value), Frm 183 [c0, c1, c2, c3, c4, ptr b5, c6, c7, ptr b8, c9, c10, ptr b11, .func (.func 76) #[] #[ptr b11, ptr b5, ptr b8], c13, ptr g, c15, c16, c17, c18, c19, c20, c21, c22, c23, c24, c25, c26, c27] fr' → fr'.getD 145 undef = .bool (decide (tk = 2)) → Q .normal ⟨fr', []⟩ w) :
    Code.wp Tryz.prog (readC [1, 1, 1, 1, 1, 1, 0, 1, 2, 2, 1, 1, 0, 2, 1, 1, 0, 2, 1, 4, 1, 4, 1, 4, 1, 4, 1, 4, 1, 4, 1, 3, 1, 0]) Q ⟨fr, []⟩ w := by
  refine rdopen28 hf ?_
  intros
  conv => arg 2; whnf
  have q0 := cellAt' (i := 0) hT rfl
  by_cases h : tk = 2
  · subst h
    go_wp2
    exact hp _ ⟨rfl, rfl⟩ rfl
  · have t1 : (tk == 2) = false := by simpa using h
    rw [decide_eq_false h] at hp
    clear h
    go_wp2
    exact hp _ ⟨rfl, rfl⟩ rfl
set_option maxRecDepth 1000000 in
set_option maxHeartbeats 4000000 in
theorem rd42 (Q : Exit → Act → World → Prop) (w : World) {b5 b8 b11 : Nat} {fr : Array Value} {c0 c1 c2 c3 c4 c6 c7 c9 c10 c13 c15 c16 c17 c18 c19 c20 c21 c22 c23 c24 c25 c26 c27 : Value} (g : Nat) (tk : Int) (nm tx hr : Bs) (hf : Frm 183 [c0, c1, c2, c3, c4, ptr b5, c6, c7, ptr b8, c9, c10, ptr b11, .func (.func 76) #[] #[ptr b11, ptr b5, ptr b8], c13, ptr g, c15, c16, c17, c18, c19, c20, c21, c22, c23, c24, c25, c26, c27] fr) (hT : w.heap[g]? = some (.cells #[.int .i64 tk, str nm, str tx, str hr] 115 (0, 0)))
    (hp : ∀ (fr' : Array Value), Frm 183 [c0, c1, c2, c3, c4, ptr b5, c6, c7, ptr b8, c9, c10, ptr b11, .func (.func 76) #[] #[ptr b11, ptr b5, ptr b8], c13, ptr g, c15, c16, c17, c18, c19, c20, c21, c22, c23, c24, c25, c26, c27] fr' → fr'.getD 149 undef = .bool (decide (tk = 3)) → Q .normal ⟨fr', []⟩ w) :
    Code.wp Tryz.prog (readC [1, 1, 1, 1, 1, 1, 0, 1, 2, 2, 1, 1, 0, 2, 1, 1, 0, 2, 1, 4, 1, 4, 1, 4, 1, 4, 1, 4, 1, 4, 1, 4, 0]) Q ⟨fr, []⟩ w := by
  refine rdopen28 hf ?_
  intros
  conv => arg 2; whnf
  have q0 := cellAt' (i := 0) hT rfl
  by_cases h : tk = 3
  · subst h
    go_wp2
    exact hp _ ⟨rfl, rfl⟩ rfl
  · have t1 : (tk == 3) = false := by simpa using h
    rw [decide_eq_false h] at hp
    clear h
    go_wp2
    exact hp _ ⟨rfl, rfl⟩ rfl
set_option maxRecDepth 1000000 in
set_option maxHeartbeats 4000000 in
theorem rd30 (Q : Exit → Act → World → Prop) (w : World) {b5 b8 b11 : Nat} {fr : Array Value} {c0 c1 c2 c3 c4 c6 c7 c9 c10 c13 c14 c15 c17 c18 c19 c20 c21 c22 c23 c24 c25 c26 c27 : Value} (z : Bool) (hf : Frm 183 [c0, c1, c2, c3, c4, ptr b5, c6, c7, ptr b8, c9, c10, ptr b11, .func (.func 76) #[] #[ptr b11, ptr b5, ptr b8], c13, c14, c15, .bool z, c17, c18, c19, c20, c21, c22, c23, c24, c25, c26, c27] fr)
    (hp : ∀ (fr' : Array Value), Frm 183 [c0, c1, c2, c3, c4, ptr b5, c6, c7, ptr b8, c9, c10, ptr b11, .func (.func 76) #[] #[ptr b11, ptr b5, ptr b8], c13, c14, c15, .bool z, c17, c18, c19, c20, c21, c22, c23, c24, c25, c26, c27] fr' → fr'.getD 97 undef = .bool z → Q .normal ⟨fr', []⟩ w) :
    Code.wp Tryz.prog (readC [1, 1, 1, 1, 1, 1, 0, 1, 2, 2, 1, 1, 0, 2, 1, 1, 0, 2, 1, 4, 1, 4, 1, 4, 0]) Q ⟨fr, []⟩ w := by
  refine rdopen28 hf ?_
  intros
  conv => arg 2; whnf
  go_wp2
  exact hp _ ⟨rfl, rfl⟩ rfl
set_option maxRecDepth 1000000 in
set_option maxHeartbeats 4000000 in
theorem rd34 (Q : Exit → Act → World → Prop) (w : World) {b5 b8 b11 : Nat} {fr : Array Value} {c0 c1 c2 c3 c4 c6 c7 c9 c10 c13 c15 c16 c17 c18 c19 c20 c21 c22 c23 c24 c25 c26 c27 : Value} (g : Nat) (tk : Int) (nm tx hr : Bs) (hf : Frm 183 [c0, c1, c2, c3, c4, ptr b5, c6, c7, ptr b8, c9, c10, ptr b11, .func (.func 76) #[] #[ptr b11, ptr b5, ptr b8], c13, ptr g, c15, c16, c17, c18, c19, c20, c21, c22, c23, c24, c25, c26, c27] fr) (hT : w.heap[g]? = some (.cells #[.int .i64 tk, str nm, str tx, str hr] 115 (0, 0)))
    (hp : ∀ (fr' : Array Value), Frm 183 [c0, c1, c2, c3, c4, ptr b5, c6, c7, ptr b8, c9, c10, ptr b11, .func (.func 76) #[] #[ptr b11, ptr b5, ptr b8], c13, ptr g, c15, c16, c17, c18, c19, c20, c21, c22, c23, c24, c25, c26, c27] fr' → fr'.getD 105 undef = .bool (decide (nm = nB ∨ nm = nStrong)) → Q .normal ⟨fr', []⟩ w) :
    Code.wp Tryz.prog (readC [1, 1, 1, 1, 1, 1, 0, 1, 2, 2, 1, 1, 0, 2, 1, 1, 0, 2, 1, 4, 1, 4, 1, 4, 1, 4, 0]) Q ⟨fr, []⟩ w := by
  refine rdopen28 hf ?_
  intros
  conv => arg 2; whnf
  have q1 := cellAt' (i := 1) hT rfl
  by_cases h : nm = nB
  · have t1 : (nm == [98]) = true := by rw [h]; rfl
    rw [decide_eq_true (Or.inl h)] at hp
    clear h
    go_wp2
    exact hp _ ⟨rfl, rfl⟩ rfl
  · have t1 : (nm == [98]) = false := by rw [beq_eq_false_iff_ne]; exact h
    by_cases h2 : nm = nStrong
    · have t2 : (nm == [115, 116, 114, 111, 110, 103]) = true := by rw [h2]; rfl
      rw [decide_eq_true (Or.inr h2)] at hp
      clear h h2
      go_wp2
      exact hp _ ⟨rfl, rfl⟩ rfl
    · have t2 : (nm == [115, 116, 114, 111, 110, 103]) = false := by rw [beq_eq_false_iff_ne]; exact h2
      rw [decide_eq_false (by rintro (x | x); exact h x; exact h2 x)] at hp
      clear h h2
      go_wp2
      exact hp _ ⟨rfl, rfl⟩ rfl
set_option maxRecDepth 1000000 in
set_option maxHeartbeats 4000000 in
theorem rd36 (Q : Exit → Act → World → Prop) (w : World) {b5 b8 b11 : Nat} {fr : Array Value} {c0 c1 c2 c3 c4 c6 c7 c9 c10 c13 c15 c16 c17 c18 c19 c20 c21 c22 c23 c24 c25 c26 c27 : Value} (g : Nat) (tk : Int) (nm tx hr : Bs) (hf : Frm 183 [c0, c1, c2, c3, c4, ptr b5, c6, c7, ptr b8, c9, c10, ptr b11, .func (.func 76) #[] #[ptr b11, ptr b5, ptr b8], c13, ptr g, c15, c16, c17, c18, c19, c20, c21, c22, c23, c24, c25, c26, c27] fr) (hT : w.heap[g]? = some (.cells #[.int .i64 tk, str nm, str tx, str hr] 115 (0, 0)))
    (hp : ∀ (fr' : Array Value), Frm 183 [c0, c1, c2, c3, c4, ptr b5, c6, c7, ptr b8, c9, c10, ptr b11, .func (.func 76) #[] #[ptr b11, ptr b5, ptr b8], c13, ptr g, c15, c16, c17, c18, c19, c20, c21, c22, c23, c24, c25, c26, c27] fr' → fr'.getD 122 undef = .bool (decide (nm = nI ∨ nm = nEm)) → Q .normal ⟨fr', []⟩ w) :
    Code.wp Tryz.prog (readC [1, 1, 1, 1, 1, 1, 0, 1, 2, 2, 1, 1, 0, 2, 1, 1, 0, 2, 1, 4, 1, 4, 1, 4, 1, 4, 1, 4, 0]) Q ⟨fr, []⟩ w := by
  refine rdopen28 hf ?_
  intros
  conv => arg 2; whnf
  have q1 := cellAt' (i := 1) hT rfl
  by_cases h : nm = nI
  · have t1 : (nm == [105]) = true := by rw [h]; rfl
    rw [decide_eq_true (Or.inl h)] at hp
    clear h
    go_wp2
    exact hp _ ⟨rfl, rfl⟩ rfl
  · have t1 : (nm == [105]) = false := by rw [beq_eq_false_iff_ne]; exact h
    by_cases h2 : nm = nEm
    · have t2 : (nm == [101, 109]) = true := by rw [h2]; rfl
      rw [decide_eq_true (Or.inr h2)] at hp
      clear h h2
      go_wp2
      exact hp _ ⟨rfl, rfl⟩ rfl
    · have t2 : (nm == [101, 109]) = false := by rw [beq_eq_false_iff_ne]; exact h2
      rw [decide_eq_false (by rintro (x | x); exact h x; exact h2 x)] at hp
      clear h h2
      go_wp2
      exact hp _ ⟨rfl, rfl⟩ rfl
set_option maxRecDepth 1000000 in
set_option maxHeartbeats 4000000 in
theorem rd38 (Q : Exit → Act → World → Prop) (w : World) {b5 b8 b11 : Nat} {fr : Array Value} {c0 c1 c2 c3 c4 c6 c7 c9 c10 c13 c15 c16 c17 c18 c19 c20 c21 c22 c23 c24 c25 c26 c27 : Value} (g : Nat) (tk : Int) (nm tx hr : Bs) (hf : Frm 183 [c0, c1, c2, c3, c4, ptr b5, c6, c7, ptr b8, c9, c10, ptr b11, .func (.func 76) #[] #[ptr b11, ptr b5, ptr b8], c13, ptr g, c15, c16, c17, c18, c19, c20, c21, c22, c23, c24, c25, c26, c27] fr) (hT : w.heap[g]? = some (.cells #[.int .i64 tk, str nm, str tx, str hr] 115 (0, 0)))
    (hp : ∀ (fr' : Array Value), Frm 183 [c0, c1, c2, c3, c4, ptr b5, c6, c7, ptr b8, c9, c10, ptr b11, .func (.func 76) #[] #[ptr b11, ptr b5, ptr b8], c13, ptr g, c15, c16, c17, c18, c19, c20, c21, c22, c23, c24, c25, c26, c27] fr' → fr'.getD 139 undef = .bool (decide (nm = nA)) → Q .normal ⟨fr', []⟩ w) :
    Code.wp Tryz.prog (readC [1, 1, 1, 1, 1, 1, 0, 1, 2, 2, 1, 1, 0, 2, 1, 1, 0, 2, 1, 4, 1, 4, 1, 4, 1, 4, 1, 4, 1, 4, 0]) Q ⟨fr, []⟩ w := by
  refine rdopen28 hf ?_
  intros
  conv => arg 2; whnf
  have q1 := cellAt' (i := 1) hT rfl
  by_cases h : nm = nA
  · have t1 : (nm == [97]) = true := by rw [h]; rfl
    rw [decide_eq_true h] at hp
    clear h
    go_wp2
    exact hp _ ⟨rfl, rfl⟩ rfl
  · have t1 : (nm == [97]) = false := by rw [beq_eq_false_iff_ne]; exact h
    rw [decide_eq_false h] at hp
    clear h
    go_wp2
    exact hp _ ⟨rfl, rfl⟩ rfl
set_option maxRecDepth 1000000 in
set_option maxHeartbeats 4000000 in
theorem rd43 (Q : Exit → Act → World → Prop) (w : World) {b5 b8 b11 : Nat} {fr : Array Value} {c0 c1 c2 c3 c4 c6 c7 c9 c10 c13 c15 c16 c17 c18 c19 c20 c21 c22 c23 c24 c25 c26 c27 : Value} (g : Nat) (tk : Int) (nm tx hr : Bs) (hf : Frm 183 [c0, c1, c2, c3, c4, ptr b5, c6, c7, ptr b8, c9, c10, ptr b11, .func (.func 76) #[] #[ptr b11, ptr b5, ptr b8], c13, ptr g, c15, c16, c17, c18, c19, c20, c21, c22, c23, c24, c25, c26, c27] fr) (hT : w.heap[g]? = some (.cells #[.int .i64 tk, str nm, str tx, str hr] 115 (0, 0)))
    (hp : ∀ (fr' : Array Value), Frm 183 [c0, c1, c2, c3, c4, ptr b5, c6, c7, ptr b8, c9, c10, ptr b11, .func (.func 76) #[] #[ptr b11, ptr b5, ptr b8], c13, ptr g, c15, c16, c17, c18, c19, c20, c21, c22, c23, c24, c25, c26, c27] fr' → fr'.getD 153 undef = .bool (decide (nm = nBr)) → Q .normal ⟨fr', []⟩ w) :
    Code.wp Tryz.prog (readC [1, 1, 1, 1, 1, 1, 0, 1, 2, 2, 1, 1, 0, 2, 1, 1, 0, 2, 1, 4, 1, 4, 1, 4, 1, 4, 1, 4, 1, 4, 1, 4, 1, 4, 0]) Q ⟨fr, []⟩ w := by
  refine rdopen28 hf ?_
  intros
  conv => arg 2; whnf
  have q1 := cellAt' (i := 1) hT rfl
  by_cases h : nm = nBr
  · have t1 : (nm == [98, 114]) = true := by rw [h]; rfl
    rw [decide_eq_true h] at hp
    clear h
    go_wp2
    exact hp _ ⟨rfl, rfl⟩ rfl
  · have t1 : (nm == [98, 114]) = false := by rw [beq_eq_false_iff_ne]; exact h
    rw [decide_eq_false h] at hp
    clear h
    go_wp2
    exact hp _ ⟨rfl, rfl⟩ rfl
set_option maxRecDepth 1000000 in
set_option maxHeartbeats 4000000 in
theorem rd39 (Q : Exit → Act → World → Prop) (w : World) {b5 b8 b11 : Nat} {fr : Array Value} {c0 c1 c2 c3 c4 c6 c7 c9 c10 c13 c14 c15 c16 c17 c18 c19 c20 c21 c22 c23 c24 c25 c26 c27 : Value} (hf : Frm 183 [c0, c1, c2, c3, c4, ptr b5, c6, c7, ptr b8, c9, c10, ptr b11, .func (.func 76) #[] #[ptr b11, ptr b5, ptr b8], c13, c14, c15, c16, c17, c18, c19, c20, c21, c22, c23, c24, c25, c26, c27] fr)
    (hp : ∀ (fr' : Array Value), Frm 183 [c0, c1, c2, c3, c4, ptr b5, c6, c7, ptr b8, str [], c10, ptr b11, .func (.func 76) #[] #[ptr b11, ptr b5, ptr b8], c13, c14, c15, c16, c17, c18, c19, c20, c21, c22, c23, c24, c25, c26, c27] fr' → Q .normal ⟨fr', []⟩ w) :
    Code.wp Tryz.prog (readC [1, 1, 1, 1, 1, 1, 0, 1, 2, 2, 1, 1, 0, 2, 1, 1, 0, 2, 1, 4, 1, 4, 1, 4, 1, 4, 1, 4, 1, 4, 1, 3, 0]) Q ⟨fr, []⟩ w := by
  refine rdopen28 hf ?_
  intros
  conv => arg 2; whnf
  go_wp2
  first | exact hp _ ⟨rfl, rfl⟩ | exact ⟨rfl, rfl⟩
set_option maxRecDepth 1000000 in
set_option maxHeartbeats 4000000 in
theorem rd44 (Q : Exit → Act → World → Prop) (w : World) {b5 b8 b11 : Nat} {fr : Array Value} {c0 c1 c2 c3 c4 c6 c7 c9 c10 c13 c14 c15 c16 c17 c18 c19 c20 c21 c22 c23 c24 c25 c26 c27 : Value} {B B1 : Nat} {wt : World} {d : List It} {kind : Int} {inn : Bool} (hf : Frm 183 [c0, c1, c2, c3, c4, ptr b5, c6, c7, ptr b8, c9, c10, ptr b11, .func (.func 76) #[] #[ptr b11, ptr b5, ptr b8], c13, c14, c15, c16, c17, c18, c19, c20, c21, c22, c23, c24, c25, c26, c27] fr) (hR : RS B B1 b5 b8 b11 wt w d kind inn)
    (hp : ∀ (fr' : Array Value), Frm 183 [c0, c1, c2, c3, c4, ptr b5, c6, c7, ptr b8, c9, c10, ptr b11, .func (.func 76) #[] #[ptr b11, ptr b5, ptr b8], c13, c14, c15, c16, c17, c18, c19, .int .i64 kind, c21, c22, c23, c24, c25, c26, c27] fr' → Q .normal ⟨fr', []⟩ w) :
    Code.wp Tryz.prog (readC [1, 1, 1, 1, 1, 1, 0, 1, 2, 2, 1, 1, 0, 2, 1, 1, 0, 2, 1, 4, 1, 4, 1, 4, 1, 4, 1, 4, 1, 4, 1, 4, 1, 4, 1, 3, 0]) Q ⟨fr, []⟩ w := by
  refine rdopen28 hf ?_
  intros
  conv => arg 2; whnf
  have q0 := cellAt' (i := 0) hR.hk rfl
  go_wp2
  first | exact hp _ ⟨rfl, rfl⟩ | exact ⟨rfl, rfl⟩
set_option maxRecDepth 1000000 in
set_option maxHeartbeats 4000000 in
theorem rd49 (Q : Exit → Act → World → Prop) (w : World) {b5 b8 b11 : Nat} {fr : Array Value} {c0 c1 c2 c3 c4 c6 c7 c9 c10 c13 c15 c16 c17 c18 c19 c20 c21 c22 c23 c24 c25 c26 c27 : Value} (g : Nat) (tk : Int) (nm tx hr : Bs) (hf : Frm 183 [c0, c1, c2, c3, c4, ptr b5, c6, c7, ptr b8, c9, c10, ptr b11, .func (.func 76) #[] #[ptr b11, ptr b5, ptr b8], c13, ptr g, c15, c16, c17, c18, c19, c20, c21, c22, c23, c24, c25, c26, c27] fr) (hT : w.heap[g]? = some (.cells #[.int .i64 tk, str nm, str tx, str hr] 115 (0, 0)))
    (hp : ∀ (fr' : Array Value), Frm 183 [c0, c1, c2, c3, c4, ptr b5, c6, c7, ptr b8, c9, str nm, ptr b11, .func (.func 76) #[] #[ptr b11, ptr b5, ptr b8], c13, ptr g, c15, c16, c17, c18, c19, c20, c21, c22, c23, c24, c25, c26, c27] fr' → Q .normal ⟨fr', []⟩ w) :
    Code.wp Tryz.prog (readC [1, 1, 1, 1, 1, 1, 0, 1, 2, 2, 1, 1, 0, 2, 1, 1, 0, 2, 1, 4, 1, 4, 1, 4, 1, 4, 1, 4, 1, 4, 1, 4, 1, 4, 1, 4, 1, 3]) Q ⟨fr, []⟩ w := by
  refine rdopen28 hf ?_
  intros
  conv => arg 2; whnf
  have q1 := cellAt' (i := 1) hT rfl
  go_wp2
  first | exact hp _ ⟨rfl, rfl⟩ | exact ⟨rfl, rfl⟩
set_option maxRecDepth 1000000 in
set_option maxHeartbeats 4000000 in
theorem rd50 (Q : Exit → Act → World → Prop) (w : World) {b5 b8 b11 : Nat} {fr : Array Value} {c0 c1 c2 c3 c4 c6 c7 c9 c10 c13 c14 c15 c16 c17 c18 c19 c20 c21 c22 c23 c24 c25 c26 c27 : Value} {B B1 : Nat} {wt : World} {d : List It} {kind : Int} {inn : Bool} (hf : Frm 183 [c0, c1, c2, c3, c4, ptr b5, c6, c7, ptr b8, c9, c10, ptr b11, .func (.func 76) #[] #[ptr b11, ptr b5, ptr b8], c13, c14, c15, c16, c17, c18, c19, c20, c21, c22, c23, c24, c25, c26, c27] fr) (hR : RS B B1 b5 b8 b11 wt w d kind inn)
    (hp : ∀ (fr' : Array Value), Frm 183 [c0, c1, c2, c3, c4, ptr b5, c6, c7, ptr b8, c9, c10, ptr b11, .func (.func 76) #[] #[ptr b11, ptr b5, ptr b8], c13, c14, c15, c16, c17, c18, c19, c20, c21, c22, c23, c24, c25, c26, c27] fr' → fr'.getD 170 undef = .bool (decide (80 < d.length)) → Q .normal ⟨fr', []⟩ w) :
    Code.wp Tryz.prog (readC [1, 1, 1, 1, 1, 1, 0, 1, 2, 2, 1, 1, 0, 2, 1, 1, 1, 0]) Q ⟨fr, []⟩ w := by
  refine rdopen28 hf ?_
  intros
  conv => arg 2; whnf
  obtain ⟨da, dc, h5, _⟩ := hR.hd
  have q0 := cellAt' (i := 0) h5 rfl
  clear h5 hR
  by_cases h : 80 < d.length
  · rw [decide_eq_true h] at hp
    have h' : (80 : Int) < (d.length : Int) := by omega
    go_wp2
    exact hp _ ⟨rfl, rfl⟩ rfl
  · rw [decide_eq_false h] at hp
    have h' : ¬ (80 : Int) < (d.length : Int) := by omega
    go_wp2
    exact hp _ ⟨rfl, rfl⟩ rfl
set_option maxRecDepth 1000000 in
set_option maxHeartbeats 4000000 in
theorem rd56 (Q : Exit → Act → World → Prop) (w : World) {b5 b8 b11 : Nat} {fr : Array Value} {c0 c1 c2 c3 c4 c6 c7 c9 c10 c13 c14 c15 c16 c17 c18 c19 c20 c21 c22 c23 c24 c25 c26 c27 : Value} (da : Option Addr) (dc : Nat) (d : List It) (hf : Frm 183 [c0, c1, c2, c3, c4, ptr b5, c6, c7, ptr b8, c9, c10, ptr b11, .func (.func 76) #[] #[ptr b11, ptr b5, ptr b8], c13, c14, c15, c16, c17, c18, c19, c20, c21, c22, c23, c24, c25, c26, c27] fr) (h5 : w.heap[b5]? = some (.cells #[.slice da d.length dc] 23 (0, 0)))
    (hp : ∀ (fr' : Array Value), Frm 183 [c0, c1, c2, c3, c4, ptr b5, c6, c7, ptr b8, c9, c10, ptr b11, .func (.func 76) #[] #[ptr b11, ptr b5, ptr b8], c13, c14, c15, c16, c17, c18, c19, c20, c21, c22, c23, c24, c25, c26, c27] fr' → fr'.getD 181 undef = .bool (decide (80 < d.length)) → Q .normal ⟨fr', []⟩ w) :
    Code.wp Tryz.prog (readC [1, 1, 1, 1, 1, 1, 1, 1, 0, 0]) Q ⟨fr, []⟩ w := by
  refine rdopen28 hf ?_
  intros
  conv => arg 2; whnf
  have q0 := cellAt' (i := 0) h5 rfl
  clear h5
  by_cases h : 80 < d.length
  · rw [decide_eq_true h] at hp
    have h' : (80 : Int) < (d.length : Int) := by omega
    go_wp2
    exact hp _ ⟨rfl, rfl⟩ rfl
  · rw [decide_eq_false h] at hp
    have h' : ¬ (80 : Int) < (d.length : Int) := by omega
    go_wp2
    exact hp _ ⟨rfl, rfl⟩ rfl
set_option maxRecDepth 1000000 in
set_option maxHeartbeats 4000000 in
theorem rd54 (Q : Exit → Act → World → Prop) (w : World) {b5 b8 b11 : Nat} {fr : Array Value} {c0 c1 c2 c3 c4 c6 c7 c9 c10 c13 c14 c15 c16 c17 c18 c19 c20 c21 c22 c23 c24 c25 c26 c27 : Value} {B B1 : Nat} {wt : World} {d : List It} {kind : Int} {inn : Bool} (hf : Frm 183 [c0, c1, c2, c3, c4, ptr b5, c6, c7, ptr b8, c9, c10, ptr b11, .func (.func 76) #[] #[ptr b11, ptr b5, ptr b8], c13, c14, c15, c16, c17, c18, c19, c20, c21, c22, c23, c24, c25, c26, c27] fr) (hR : RS B B1 b5 b8 b11 wt w d kind inn)
    (hp : ∀ (fr' : Array Value), Frm 183 [c0, c1, c2, c3, c4, ptr b5, c6, c7, ptr b8, c9, c10, ptr b11, .func (.func 76) #[] #[ptr b11, ptr b5, ptr b8], c13, c14, c15, c16, c17, c18, c19, c20, c21, c22, c23, c24, c25, c26, c27] fr' → fr'.getD 176 undef = .bool (decide (d = [])) → Q .normal ⟨fr', []⟩ w) :
    Code.wp Tryz.prog (readC [1, 1, 1, 1, 1, 1, 1, 0, 1, 0]) Q ⟨fr, []⟩ w := by
  refine rdopen28 hf ?_
  intros
  conv => arg 2; whnf
  obtain ⟨da, dc, h5, _⟩ := hR.hd
  have q0 := cellAt' (i := 0) h5 rfl
  clear h5 hR
  cases d with
  | nil =>
    go_wp2
    exact hp _ ⟨rfl, rfl⟩ rfl
  | cons x y =>
    have t1 : (((x :: y).length : Int) == 0) = false := by rw [beq_eq_false_iff_ne]; simp; omega
    go_wp2
    exact hp _ ⟨rfl, rfl⟩ rfl
set_option maxRecDepth 1000000 in
set_option maxHeartbeats 4000000 in
theorem rd51 (Q : Exit → Act → World → Prop) (w : World) {b5 b8 b11 : Nat} {fr : Array Value} {c0 c1 c2 c3 c4 c6 c7 c9 c10 c13 c14 c15 c16 c17 c18 c19 c20 c21 c22 c23 c24 c25 c26 c27 : Value} (hf : Frm 183 [c0, c1, c2, c3, c4, ptr b5, c6, c7, ptr b8, c9, c10, ptr b11, .func (.func 76) #[] #[ptr b11, ptr b5, ptr b8], c13, c14, c15, c16, c17, c18, c19, c20, c21, c22, c23, c24, c25, c26, c27] fr)
    (hp : ∀ (fr' : Array Value), Frm 183 [c0, c1, .slice none 0 0, .int .i64 2, c4, ptr b5, c6, c7, ptr b8, c9, c10, ptr b11, .func (.func 76) #[] #[ptr b11, ptr b5, ptr b8], c13, c14, c15, c16, c17, c18, c19, c20, c21, c22, c23, c24, c25, c26, c27] fr' → Q .normal ⟨fr', []⟩ w) :
    Code.wp Tryz.prog (readC [1, 1, 1, 1, 1, 1, 0, 1, 2, 2, 1, 1, 0, 2, 1, 1, 1, 1, 3, 0]) Q ⟨fr, []⟩ w := by
  refine rdopen28 hf ?_
  intros
  conv => arg 2; whnf
  go_wp2
  first | exact hp _ ⟨rfl, rfl⟩ | exact ⟨rfl, rfl⟩
set_option maxRecDepth 1000000 in
set_option maxHeartbeats 4000000 in
theorem rd57 (Q : Exit → Act → World → Prop) (w : World) {b5 b8 b11 : Nat} {fr : Array Value} {c0 c1 c2 c3 c4 c6 c7 c9 c10 c13 c14 c15 c16 c17 c18 c19 c20 c21 c22 c23 c24 c25 c26 c27 : Value} (hf : Frm 183 [c0, c1, c2, c3, c4, ptr b5, c6, c7, ptr b8, c9, c10, ptr b11, .func (.func 76) #[] #[ptr b11, ptr b5, ptr b8], c13, c14, c15, c16, c17, c18, c19, c20, c21, c22, c23, c24, c25, c26, c27] fr)
    (hp : ∀ (fr' : Array Value), Frm 183 [c0, c1, .slice none 0 0, .int .i64 2, c4, ptr b5, c6, c7, ptr b8, c9, c10, ptr b11, .func (.func 76) #[] #[ptr b11, ptr b5, ptr b8], c13, c14, c15, c16, c17, c18, c19, c20, c21, c22, c23, c24, c25, c26, c27] fr' → Q .normal ⟨fr', []⟩ w) :
    Code.wp Tryz.prog (readC [1, 1, 1, 1, 1, 1, 1, 1, 0, 1, 3, 0]) Q ⟨fr, []⟩ w := by
  refine rdopen28 hf ?_
  intros
  conv => arg 2; whnf
  go_wp2
  first | exact hp _ ⟨rfl, rfl⟩ | exact ⟨rfl, rfl⟩
set_option maxRecDepth 1000000 in
set_option maxHeartbeats 4000000 in
theorem rd52 (Q : Exit → Act → World → Prop) (w : World) {b5 b8 b11 : Nat} {fr : Array Value} {c0 c1 c2 c3 c4 c6 c7 c9 c10 c13 c14 c15 c16 c17 c18 c19 c20 c21 c22 c23 c24 c25 c26 : Value} (i : Nat) (hf : Frm 183 [c0, c1, c2, c3, c4, ptr b5, c6, c7, ptr b8, c9, c10, ptr b11, .func (.func 76) #[] #[ptr b11, ptr b5, ptr b8], c13, c14, c15, c16, c17, c18, c19, c20, c21, c22, c23, c24, c25, c26, .int .i64 (i : Int)] fr) (hi : i ≤ 1000000)
    (hp : ∀ (fr' : Array Value), Frm 183 [c0, c1, c2, c3, c4, ptr b5, c6, c7, ptr b8, c9, c10, ptr b11, .func (.func 76) #[] #[ptr b11, ptr b5, ptr b8], c13, c14, c15, c16, c17, c18, c19, c20, c21, c22, c23, c24, c25, c26, .int .i64 ((i + 1 : Nat) : Int)] fr' → Q .normal ⟨fr', []⟩ w) :
    Code.wp Tryz.prog (readC [1, 1, 1, 1, 1, 1, 0, 1, 2, 2, 1, 1, 1]) Q ⟨fr, []⟩ w := by
  refine rdopen28 hf ?_
  intros
  conv => arg 2; whnf
  go_wp2
  first | exact hp _ ⟨rfl, rfl⟩ | exact ⟨rfl, rfl⟩
set_option maxRecDepth 1000000 in
set_option maxHeartbeats 4000000 in
theorem rd58 (Q : Exit → Act → World → Prop) (w : World) {b5 b8 b11 : Nat} {fr : Array Value} {c0 c1 c2 c3 c4 c6 c7 c9 c10 c13 c14 c15 c16 c17 c18 c19 c20 c21 c22 c23 c24 c25 c26 c27 : Value} (da : Option Addr) (dc : Nat) (d : List It) (hf : Frm 183 [c0, c1, c2, c3, c4, ptr b5, c6, c7, ptr b8, c9, c10, ptr b11, .func (.func 76) #[] #[ptr b11, ptr b5, ptr b8], c13, c14, c15, c16, c17, c18, c19, c20, c21, c22, c23, c24, c25, c26, c27] fr) (h5 : w.heap[b5]? = some (.cells #[.slice da d.length dc] 23 (0, 0)))
    (hp : ∀ (fr' : Array Value), Frm 183 [c0, c1, .slice da d.length dc, .int .i64 0, c4, ptr b5, c6, c7, ptr b8, c9, c10, ptr b11, .func (.func 76) #[] #[ptr b11, ptr b5, ptr b8], c13, c14, c15, c16, c17, c18, c19, c20, c21, c22, c23, c24, c25, c26, c27] fr' → Q .normal ⟨fr', []⟩ w) :
    Code.wp Tryz.prog (readC [1, 1, 1, 1, 1, 1, 1, 1, 1, 0]) Q ⟨fr, []⟩ w := by
  refine rdopen28 hf ?_
  intros
  conv => arg 2; whnf
  have q0 := cellAt' (i := 0) h5 rfl
  go_wp2
  first | exact hp _ ⟨rfl, rfl⟩ | exact ⟨rfl, rfl⟩
set_option maxRecDepth 1000000 in
set_option maxHeartbeats 4000000 in
theorem rd33 (Q : Exit → Act → World → Prop) (w : World) {b5 b8 b11 : Nat} {fr : Array Value} {c0 c1 c2 c3 c4 c6 c7 c9 c10 c13 c14 c16 c17 c18 c19 c20 c21 c22 c23 c24 c25 c26 c27 : Value} {B B1 : Nat} {wt : World} {d : List It} {kind : Int} {inn : Bool} (kv : Int) (hf : Frm 183 [c0, c1, c2, c3, c4, ptr b5, c6, c7, ptr b8, c9, c10, ptr b11, .func (.func 76) #[] #[ptr b11, ptr b5, ptr b8], c13, c14, .int .i64 kv, c16, c17, c18, c19, c20, c21, c22, c23, c24, c25, c26, c27] fr) (hR : RS B B1 b5 b8 b11 wt w d kind inn)
    (hp : ∀ (fr' : Array Value) (w' : World), Frm 183 [c0, c1, c2, c3, c4, ptr b5, c6, c7, ptr b8, c9, c10, ptr b11, .func (.func 76) #[] #[ptr b11, ptr b5, ptr b8], c13, c14, .int .i64 kv, c16, c17, c18, c19, c20, c21, c22, c23, c24, c25, c26, c27] fr' → RS B B1 b5 b8 b11 wt w' d kv true → Q .normal ⟨fr', []⟩ w') :
    Code.wp Tryz.prog (readC [1, 1, 1, 1, 1, 1, 0, 1, 2, 2, 1, 1, 0, 2, 1, 1, 0, 2, 1, 4, 1, 4, 1, 4, 1, 3, 1, 1, 3]) Q ⟨fr, []⟩ w := by
  refine rdopen28 hf ?_
  intros
  conv => arg 2; whnf
  have f8 : ∀ i, w.frozen? ⟨b8, i, none⟩ = false := fun i => Lib.frozen_of_heap hR.hk _
  have f11 : ∀ i, w.frozen? ⟨b11, i, none⟩ = false := fun i => Lib.frozen_of_heap hR.hi _
  have x8 := cellAt' (i := 0) hR.hk rfl
  have x11 := cellAt' (i := 0) hR.hi rfl
  have n8b : ¬ b8 = b11 := hR.n8b
  have HF := (hR.inn' true).kind' kv
  go_wp2
  exact hp _ _ ⟨rfl, rfl⟩ HF
set_option maxRecDepth 1000000 in
set_option maxHeartbeats 4000000 in
theorem rd45 (Q : Exit → Act → World → Prop) (w : World) {b5 b8 b11 : Nat} {fr : Array Value} {c0 c1 c2 c3 c4 c6 c7 c9 c10 c13 c14 c15 c16 c17 c18 c19 c20 c21 c22 c23 c24 c25 c26 c27 : Value} {B B1 : Nat} {wt : World} {d : List It} {kind : Int} {inn : Bool} (hf : Frm 183 [c0, c1, c2, c3, c4, ptr b5, c6, c7, ptr b8, c9, c10, ptr b11, .func (.func 76) #[] #[ptr b11, ptr b5, ptr b8], c13, c14, c15, c16, c17, c18, c19, c20, c21, c22, c23, c24, c25, c26, c27] fr) (hR : RS B B1 b5 b8 b11 wt w d kind inn)
    (hp : ∀ (fr' : Array Value) (w' : World), Frm 183 [c0, c1, c2, c3, c4, ptr b5, c6, c7, ptr b8, c9, c10, ptr b11, .func (.func 76) #[] #[ptr b11, ptr b5, ptr b8], c13, c14, c15, c16, c17, c18, c19, c20, c21, c22, c23, c24, c25, c26, c27] fr' → RS B B1 b5 b8 b11 wt w' d kind true → Q .normal ⟨fr', []⟩ w') :
    Code.wp Tryz.prog (readC [1, 1, 1, 1, 1, 1, 0, 1, 2, 2, 1, 1, 0, 2, 1, 1, 0, 2, 1, 4, 1, 4, 1, 4, 1, 4, 1, 4, 1, 4, 1, 4, 1, 4, 1, 3, 1, 0]) Q ⟨fr, []⟩ w := by
  refine rdopen28 hf ?_
  intros
  conv => arg 2; whnf
  have f8 : ∀ i, w.frozen? ⟨b8, i, none⟩ = false := fun i => Lib.frozen_of_heap hR.hk _
  have f11 : ∀ i, w.frozen? ⟨b11, i, none⟩ = false := fun i => Lib.frozen_of_heap hR.hi _
  have x8 := cellAt' (i := 0) hR.hk rfl
  have x11 := cellAt' (i := 0) hR.hi rfl
  have n8b : ¬ b8 = b11 := hR.n8b
  have HF := hR.inn' true
  go_wp2
  exact hp _ _ ⟨rfl, rfl⟩ HF
set_option maxRecDepth 1000000 in
set_option maxHeartbeats 4000000 in
theorem rd47 (Q : Exit → Act → World → Prop) (w : World) {b5 b8 b11 : Nat} {fr : Array Value} {c0 c1 c2 c3 c4 c6 c7 c9 c10 c13 c14 c15 c16 c17 c18 c19 c21 c22 c23 c24 c25 c26 c27 : Value} {B B1 : Nat} {wt : World} {d : List It} {kind : Int} {inn : Bool} (kv : Int) (hf : Frm 183 [c0, c1, c2, c3, c4, ptr b5, c6, c7, ptr b8, c9, c10, ptr b11, .func (.func 76) #[] #[ptr b11, ptr b5, ptr b8], c13, c14, c15, c16, c17, c18, c19, .int .i64 kv, c21, c22, c23, c24, c25, c26, c27] fr) (hR : RS B B1 b5 b8 b11 wt w d kind inn)
    (hp : ∀ (fr' : Array Value) (w' : World), Frm 183 [c0, c1, c2, c3, c4, ptr b5, c6, c7, ptr b8, c9, c10, ptr b11, .func (.func 76) #[] #[ptr b11, ptr b5, ptr b8], c13, c14, c15, c16, c17, c18, c19, .int .i64 kv, c21, c22, c23, c24, c25, c26, c27] fr' → RS B B1 b5 b8 b11 wt w' d kv inn → Q .normal ⟨fr', []⟩ w') :
    Code.wp Tryz.prog (readC [1, 1, 1, 1, 1, 1, 0, 1, 2, 2, 1, 1, 0, 2, 1, 1, 0, 2, 1, 4, 1, 4, 1, 4, 1, 4, 1, 4, 1, 4, 1, 4, 1, 4, 1, 3, 1, 1, 1]) Q ⟨fr, []⟩ w := by
  refine rdopen28 hf ?_
  intros
  conv => arg 2; whnf
  have f8 : ∀ i, w.frozen? ⟨b8, i, none⟩ = false := fun i => Lib.frozen_of_heap hR.hk _
  have f11 : ∀ i, w.frozen? ⟨b11, i, none⟩ = false := fun i => Lib.frozen_of_heap hR.hi _
  have x8 := cellAt' (i := 0) hR.hk rfl
  have x11 := cellAt' (i := 0) hR.hi rfl
  have n8b : ¬ b8 = b11 := hR.n8b
  have HF := hR.kind' kv
  go_wp2
  exact hp _ _ ⟨rfl, rfl⟩ HF
set_option maxRecDepth 1000000 in
set_option maxHeartbeats 4000000 in
theorem rd31 (Q : Exit → Act → World → Prop) (w : World) {b5 b8 b11 : Nat} {fr : Array Value} {c0 c1 c2 c3 c4 c6 c7 c9 c10 c13 c14 c15 c16 c17 c18 c19 c20 c21 c22 c23 c24 c25 c26 c27 : Value} {B B1 : Nat} {wt : World} (k : Dk) (hf : Frm 183 [c0, c1, c2, c3, c4, ptr b5, c6, c7, ptr b8, c9, c10, ptr b11, .func (.func 76) #[] #[ptr b11, ptr b5, ptr b8], c13, c14, c15, c16, c17, c18, c19, c20, c21, c22, c23, c24, c25, c26, c27] fr) (hR : RS B B1 b5 b8 b11 wt w k.d k.kind k.inn) (hl : k.d.length ≤ 100000) (hfo : Fo k)
    (hp : ∀ (fr' : Array Value) (w' : World), Frm 183 [c0, c1, c2, c3, c4, ptr b5, c6, c7, ptr b8, c9, c10, ptr b11, .func (.func 76) #[] #[ptr b11, ptr b5, ptr b8], c13, c14, c15, c16, c17, c18, c19, c20, c21, c22, c23, c24, c25, c26, c27] fr' → RS B B1 b5 b8 b11 wt w' (endD k).d (endD k).kind (endD k).inn → Keeps b5 b8 b11 w w' → Q .normal ⟨fr', []⟩ w') :
    Code.wp Tryz.prog (readC [1, 1, 1, 1, 1, 1, 0, 1, 2, 2, 1, 1, 0, 2, 1, 1, 0, 2, 1, 4, 1, 4, 1, 4, 1, 3, 0]) Q ⟨fr, []⟩ w := by
  refine rdopen28 hf ?_
  intros
  conv => arg 2; whnf
  have C := Lib.hid (rdEnd_any k hR hl hfo)
  clear hR
  go_wp2_with fail
  refine C.out.mono ?_
  rintro e w3 ⟨rfl, hR3, hK3⟩
  have HK := Lib.hid hK3
  clear hK3
  go_wp2
  exact hp _ _ ⟨rfl, rfl⟩ hR3 HK.out
set_option maxRecDepth 1000000 in
set_option maxHeartbeats 4000000 in
theorem rd46 (Q : Exit → Act → World → Prop) (w : World) {b5 b8 b11 : Nat} {fr : Array Value} {c0 c1 c2 c3 c4 c6 c7 c9 c10 c13 c14 c15 c16 c17 c18 c19 c20 c21 c22 c23 c24 c25 c26 c27 : Value} {B B1 : Nat} {wt : World} (k : Dk) (hf : Frm 183 [c0, c1, c2, c3, c4, ptr b5, c6, c7, ptr b8, c9, c10, ptr b11, .func (.func 76) #[] #[ptr b11, ptr b5, ptr b8], c13, c14, c15, c16, c17, c18, c19, c20, c21, c22, c23, c24, c25, c26, c27] fr) (hR : RS B B1 b5 b8 b11 wt w k.d k.kind k.inn) (hl : k.d.length ≤ 100000) (hfo : Fo k)
    (hp : ∀ (fr' : Array Value) (w' : World), Frm 183 [c0, c1, c2, c3, c4, ptr b5, c6, c7, ptr b8, c9, c10, ptr b11, .func (.func 76) #[] #[ptr b11, ptr b5, ptr b8], c13, c14, c15, c16, c17, c18, c19, c20, c21, c22, c23, c24, c25, c26, c27] fr' → RS B B1 b5 b8 b11 wt w' (endD k).d (endD k).kind (endD k).inn → Keeps b5 b8 b11 w w' → Q .normal ⟨fr', []⟩ w') :
    Code.wp Tryz.prog (readC [1, 1, 1, 1, 1, 1, 0, 1, 2, 2, 1, 1, 0, 2, 1, 1, 0, 2, 1, 4, 1, 4, 1, 4, 1, 4, 1, 4, 1, 4, 1, 4, 1, 4, 1, 3, 1, 1, 0]) Q ⟨fr, []⟩ w := by
  refine rdopen28 hf ?_
  intros
  conv => arg 2; whnf
  have C := Lib.hid (rdEnd_any k hR hl hfo)
  clear hR
  go_wp2_with fail
  refine C.out.mono ?_
  rintro e w3 ⟨rfl, hR3, hK3⟩
  have HK := Lib.hid hK3
  clear hK3
  go_wp2
  exact hp _ _ ⟨rfl, rfl⟩ hR3 HK.out
set_option maxRecDepth 1000000 in
set_option maxHeartbeats 4000000 in
theorem rd53 (Q : Exit → Act → World → Prop) (w : World) {b5 b8 b11 : Nat} {fr : Array Value} {c0 c1 c2 c3 c4 c6 c7 c9 c10 c13 c14 c15 c16 c17 c18 c19 c20 c21 c22 c23 c24 c25 c26 c27 : Value} {B B1 : Nat} {wt : World} (k : Dk) (hf : Frm 183 [c0, c1, c2, c3, c4, ptr b5, c6, c7, ptr b8, c9, c10, ptr b11, .func (.func 76) #[] #[ptr b11, ptr b5, ptr b8], c13, c14, c15, c16, c17, c18, c19, c20, c21, c22, c23, c24, c25, c26, c27] fr) (hR : RS B B1 b5 b8 b11 wt w k.d k.kind k.inn) (hl : k.d.length ≤ 100000) (hfo : Fo k)
    (hp : ∀ (fr' : Array Value) (w' : World), Frm 183 [c0, c1, c2, c3, c4, ptr b5, c6, c7, ptr b8, c9, c10, ptr b11, .func (.func 76) #[] #[ptr b11, ptr b5, ptr b8], c13, c14, c15, c16, c17, c18, c19, c20, c21, c22, c23, c24, c25, c26, c27] fr' → RS B B1 b5 b8 b11 wt w' (endD k).d (endD k).kind (endD k).inn → Keeps b5 b8 b11 w w' → Q .normal ⟨fr', []⟩ w') :
    Code.wp Tryz.prog (readC [1, 1, 1, 1, 1, 1, 1, 0, 0]) Q ⟨fr, []⟩ w := by
  refine rdopen28 hf ?_
  intros
  conv => arg 2; whnf
  have C := Lib.hid (rdEnd_any k hR hl hfo)
  clear hR
  go_wp2_with fail
  refine C.out.mono ?_
  rintro e w3 ⟨rfl, hR3, hK3⟩
  have HK := Lib.hid hK3
  clear hK3
  go_wp2
  exact hp _ _ ⟨rfl, rfl⟩ hR3 HK.out
set_option maxRecDepth 1000000 in
set_option maxHeartbeats 4000000 in
theorem rd41 (Q : Exit → Act → World → Prop) (w : World) {b5 b8 b11 : Nat} {fr : Array Value} {c0 c1 c2 c3 c4 c6 c7 c9 c10 c13 c15 c16 c17 c18 c19 c20 c21 c22 c23 c24 c25 c26 c27 : Value} (g : Nat) (tk : Int) (nm tx hr : Bs) (hf : Frm 183 [c0, c1, c2, c3, c4, ptr b5, c6, c7, ptr b8, c9, c10, ptr b11, .func (.func 76) #[] #[ptr b11, ptr b5, ptr b8], c13, ptr g, c15, c16, c17, c18, c19, c20, c21, c22, c23, c24, c25, c26, c27] fr) (hT : w.heap[g]? = some (.cells #[.int .i64 tk, str nm, str tx, str hr] 115 (0, 0))) (hm : ∃ m, w.cell? ⟨2, 0, none⟩ = some (.int .i64 m)) (hl : hr.length ≤ 20000)
    (hp : ∀ (fr' : Array Value) (w' : World), Frm 183 [c0, c1, c2, c3, c4, ptr b5, c6, c7, ptr b8, str (cleanT hr), c10, ptr b11, .func (.func 76) #[] #[ptr b11, ptr b5, ptr b8], c13, ptr g, c15, c16, c17, c18, c19, c20, c21, c22, c23, c24, c25, c26, c27] fr' → Below w.heap.size w w' → Q .normal ⟨fr', []⟩ w') :
    Code.wp Tryz.prog (readC [1, 1, 1, 1, 1, 1, 0, 1, 2, 2, 1, 1, 0, 2, 1, 1, 0, 2, 1, 4, 1, 4, 1, 4, 1, 4, 1, 4, 1, 4, 1, 3, 1, 1, 3]) Q ⟨fr, []⟩ w := by
  refine rdopen28 hf ?_
  intros
  conv => arg 2; whnf
  have q3 := cellAt' (i := 3) hT rfl
  have C := Lib.hid (cleanOf_any hr w hm hl)
  clear hm
  go_wp2_with fail
  refine C.out.mono ?_
  rintro e w3 ⟨rfl, hb3⟩
  go_wp2
  exact hp _ _ ⟨rfl, rfl⟩ hb3
end Go.Proofs.YteikncnldbdfmaaGreatDoor
