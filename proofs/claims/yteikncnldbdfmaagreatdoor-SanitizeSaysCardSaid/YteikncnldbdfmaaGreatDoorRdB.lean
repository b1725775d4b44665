/- The reference Read: its regions that make maps, call or store. -/
import Derived.Test.YteikncnldbdfmaaGreatDoorRdA
import Derived.Test.YteikncnldbdfmaaGreatDoorRefTc
namespace Go.Mh
/-- The blocks' names, as Read's map holds them. -/
def BD : DataW Unit := (((((DataW.map []).put (.string nP) (.lit (.int .i64 0))).put (.string nDiv) (.lit (.int .i64 0))).put (.string nH1) (.lit (.int .i64 1))).put (.string nLi) (.lit (.int .i64 2))).put (.string nH2) (.lit (.int .i64 3))
theorem sne {a b : Bs} (h : a ≠ b) : Lit.string a ≠ Lit.string b := fun e => h (by injection e)
theorem BD_at (n : Bs) : Maps.has BD (.string n) = (blockOf n).isSome ∧ BD.atKey (.string n) (.lit (.int .i64 0)) = .lit (.int .i64 ((blockOf n).getD 0)) := by
  by_cases h4 : n = nH2
  · subst h4; exact ⟨by decide, rfl⟩
  by_cases h3 : n = nLi
  · subst h3; exact ⟨by decide, rfl⟩
  by_cases h2 : n = nH1
  · subst h2; exact ⟨by decide, rfl⟩
  by_cases h1 : n = nDiv
  · subst h1; exact ⟨by decide, rfl⟩
  by_cases h0 : n = nP
  · subst h0; exact ⟨by decide, rfl⟩
  have e : blockOf n = none := by unfold blockOf; rw [if_neg h0, if_neg h2, if_neg h3, if_neg h4, if_neg h1]
  rw [e]
  unfold BD
  constructor
  · rw [Maps.has_put_other (sne h4), Maps.has_put_other (sne h3), Maps.has_put_other (sne h2), Maps.has_put_other (sne h1), Maps.has_put_other (sne h0)]
    rfl
  · rw [Maps.atKey_put_other (sne h4), Maps.atKey_put_other (sne h3), Maps.atKey_put_other (sne h2), Maps.atKey_put_other (sne h1), Maps.atKey_put_other (sne h0)]
    rfl
def MD : DataW Unit := ((DataW.map []).put (.int .i64 2) (.lit (.int .i64 1))).put (.int .i64 3) (.lit (.int .i64 (-1)))
theorem MD2 : MD.atKey (.int .i64 2) (.lit (.int .i64 0)) = .lit (.int .i64 1) := rfl
theorem MD3 : MD.atKey (.int .i64 3) (.lit (.int .i64 0)) = .lit (.int .i64 (-1)) := rfl
def isBl (c : UInt8) : Prop := c = 9 ∨ c = 10 ∨ c = 13 ∨ c = 12
instance (c : UInt8) : Decidable (isBl c) := by unfold isBl; infer_instance
def isOd (c : UInt8) : Prop := c < 32 ∨ 126 < c
instance (c : UInt8) : Decidable (isOd c) := by unfold isOd; infer_instance
theorem bl_idx_fin : ∀ n : Fin 256, decide (Lib.indexByte [9, 10, 13, 12] (UInt8.ofNat n.val) ≥ 0) = decide (isBl (UInt8.ofNat n.val)) := by decide +kernel
theorem bl_idx (c : UInt8) : decide (Lib.indexByte [9, 10, 13, 12] c ≥ 0) = decide (isBl c) := by
  have := bl_idx_fin ⟨c.toNat, c.toNat_lt⟩
  simpa using this
end Go.Mh
namespace Go.Proofs.YteikncnldbdfmaaGreatDoor
open Go.RowKit Go.Mh
theorem lawS : Maps.Keyed Tryz.prog 9 := Maps.string_keyed Tryz.underlying9
theorem lawI : Maps.Keyed Tryz.prog 3 := Maps.int_keyed Tryz.underlying3
theorem zeroI (w : World) : (zeroValue 3).run Tryz.prog w = .ok (.int .i64 0) w := by kernel_rfl
set_option maxRecDepth 1000000 in
set_option maxHeartbeats 4000000 in
theorem rd1 (Q : Exit → Act → World → Prop) (w : World) {fr : Array Value} {c0 c1 c2 c3 c4 c5 c6 c7 c8 c9 c10 c11 c12 c13 c14 c15 c16 c17 c18 c19 c20 c21 c22 c23 c24 c25 c26 c27 : Value} (hf : Frm 183 [c0, c1, c2, c3, c4, c5, c6, c7, c8, c9, c10, c11, c12, c13, c14, c15, c16, c17, c18, c19, c20, c21, c22, c23, c24, c25, c26, c27] fr)
    (hp : ∀ (fr' : Array Value) (w' : World), Frm 183 [c0, c1, c2, c3, .map (some w.heap.size), c5, c6, c7, c8, c9, c10, c11, c12, c13, c14, c15, c16, c17, c18, c19, c20, .map (some w.heap.size), .map (some w.heap.size), c23, c24, c25, c26, c27] fr' → w'.ownsMap Tryz.prog 9 (plainElem Tryz.prog 3) w.heap.size 5 BD → Below w.heap.size w w' → Q .normal ⟨fr', []⟩ w') :
    Code.wp Tryz.prog (readC [1, 0]) Q ⟨fr, []⟩ w := by
  refine rdopen28 hf ?_
  intros
  conv => arg 2; whnf
  have hmm := @run_makeMap Tryz.prog
  have hb0 := bal (brf w) (.map #[] 0)
  have o0 := World.ownsMap_made (H := Unit) w Tryz.prog 9 (plainElem Tryz.prog 3)
  obtain ⟨w1, r1, o1, g1⟩ := o0.update lawS Tryz.underlying121 (by decide) (key := .string ⟨#[112]⟩) (val := .int .i64 0) (WideMaps.keyOf_string_mk Tryz.underlying9 (by decide)) (plainElem_int Tryz.underlying3 (by decide))
  have hb1 := hb0.grown g1 hb0.size (fun j hj => by cases hj; exact Nat.le_refl _)
  obtain ⟨w2, r2, o2, g2⟩ := o1.update lawS Tryz.underlying121 (by decide) (key := .string ⟨#[100, 105, 118]⟩) (val := .int .i64 0) (WideMaps.keyOf_string_mk Tryz.underlying9 (by decide)) (plainElem_int Tryz.underlying3 (by decide))
  have hb2 := hb1.grown g2 hb1.size (fun j hj => by cases hj; exact Nat.le_refl _)
  obtain ⟨w3, r3, o3, g3⟩ := o2.update lawS Tryz.underlying121 (by decide) (key := .string ⟨#[104, 49]⟩) (val := .int .i64 1) (WideMaps.keyOf_string_mk Tryz.underlying9 (by decide)) (plainElem_int Tryz.underlying3 (by decide))
  have hb3 := hb2.grown g3 hb2.size (fun j hj => by cases hj; exact Nat.le_refl _)
  obtain ⟨w4, r4, o4, g4⟩ := o3.update lawS Tryz.underlying121 (by decide) (key := .string ⟨#[108, 105]⟩) (val := .int .i64 2) (WideMaps.keyOf_string_mk Tryz.underlying9 (by decide)) (plainElem_int Tryz.underlying3 (by decide))
  have hb4 := hb3.grown g4 hb3.size (fun j hj => by cases hj; exact Nat.le_refl _)
  obtain ⟨w5, r5, o5, g5⟩ := o4.update lawS Tryz.underlying121 (by decide) (key := .string ⟨#[104, 50]⟩) (val := .int .i64 3) (WideMaps.keyOf_string_mk Tryz.underlying9 (by decide)) (plainElem_int Tryz.underlying3 (by decide))
  have hb5 := hb4.grown g5 hb4.size (fun j hj => by cases hj; exact Nat.le_refl _)
  have HO := Lib.hid o5
  have HB := Lib.hid hb5
  clear o0 o1 o2 o3 o4 o5 g1 g2 g3 g4 g5 hb0 hb1 hb2 hb3 hb4 hb5
  go_wp2
  exact hp _ _ ⟨rfl, rfl⟩ HO.out HB.out
set_option maxRecDepth 1000000 in
set_option maxHeartbeats 4000000 in
theorem rd9 (Q : Exit → Act → World → Prop) (w : World) {b5 b8 b11 : Nat} {fr : Array Value} {c0 c1 c2 c3 c6 c7 c9 c10 c13 c15 c16 c17 c18 c19 c20 c21 c22 c23 c24 c25 c26 c27 : Value} (bm : Nat) (g : Nat) (tk : Int) (nm tx hr : Bs) (hf : Frm 183 [c0, c1, c2, c3, .map (some bm), ptr b5, c6, c7, ptr b8, c9, c10, ptr b11, .func (.func 76) #[] #[ptr b11, ptr b5, ptr b8], c13, ptr g, c15, c16, c17, c18, c19, c20, c21, c22, c23, c24, c25, c26, c27] fr) (hT : w.heap[g]? = some (.cells #[.int .i64 tk, str nm, str tx, str hr] 115 (0, 0))) (hown : w.ownsMap Tryz.prog 9 (plainElem Tryz.prog 3) bm 5 BD) (hl : nm.length ≤ 100000)
    (hp : ∀ (fr' : Array Value), Frm 183 [c0, c1, c2, c3, .map (some bm), ptr b5, c6, c7, ptr b8, c9, c10, ptr b11, .func (.func 76) #[] #[ptr b11, ptr b5, ptr b8], c13, ptr g, .int .i64 ((blockOf nm).getD 0), .bool (blockOf nm).isSome, c17, c18, c19, c20, c21, c22, c23, c24, c25, c26, c27] fr' → Q .normal ⟨fr', []⟩ w) :
    Code.wp Tryz.prog (readC [1, 1, 1, 1, 1, 1, 0, 1, 2, 2, 1, 1, 0, 2, 1, 0]) Q ⟨fr, []⟩ w := by
  refine rdopen28 hf ?_
  intros
  conv => arg 2; whnf
  have q1 := cellAt' (i := 1) hT rfl
  obtain ⟨hb1, hb2⟩ := BD_at nm
  obtain ⟨v, ps, hrun, hv⟩ := hown.look_ok lawS Tryz.underlying121 (zeroI _) (plainElem_int Tryz.underlying3 (by decide)) (key := str nm) (WideMaps.keyOf_string_mk Tryz.underlying9 (by show nm.length ≤ maxLen; unfold maxLen; omega))
  obtain ⟨cc, rfl, hc, _⟩ := plainElem_int_inv Tryz.underlying3 hv
  have hcc : (blockOf nm).getD 0 = cc := by
    have e := hb2.symm.trans (congrArg Prod.fst hc)
    injection e with e; injection e
  rw [hb1] at hrun
  rw [hcc] at hp
  obtain ⟨z, hz⟩ : ∃ z, (blockOf nm).isSome = z := ⟨_, rfl⟩
  rw [hz] at hrun hp
  clear hz hcc hc hv hb1 hb2 hown
  go_wp2
  first | exact hp _ ⟨rfl, rfl⟩ | exact ⟨rfl, rfl⟩
set_option maxRecDepth 1000000 in
set_option maxHeartbeats 4000000 in
theorem rd6 (Q : Exit → Act → World → Prop) (w : World) {b5 b8 b11 : Nat} {fr : Array Value} {c1 c2 c3 c4 c6 c7 c9 c10 c13 c14 c15 c16 c17 c18 c19 c20 c21 c22 c23 c24 c25 c26 c27 : Value} (v : Value) (S : Bs) (F : Nat → Prop) (hf : Frm 183 [v, c1, c2, c3, c4, ptr b5, c6, c7, ptr b8, c9, c10, ptr b11, .func (.func 76) #[] #[ptr b11, ptr b5, ptr b8], c13, c14, c15, c16, c17, c18, c19, c20, c21, c22, c23, c24, c25, c26, c27] fr) (h : RBytes F w v S) (hm : ∃ m, w.cell? ⟨2, 0, none⟩ = some (.int .i64 m)) (hS : S.length ≤ 20000)
    (hp : ∀ (fr' : Array Value) (w' : World) (ta : Option Addr) (tc : Nat), Frm 183 [v, c1, c2, c3, c4, ptr b5, c6, c7, ptr b8, c9, c10, ptr b11, .func (.func 76) #[] #[ptr b11, ptr b5, ptr b8], c13, c14, c15, c16, c17, c18, c19, c20, c21, c22, c23, v, .slice ta (pageT S).length tc, .int .i64 ((pageT S).length : Int), .int .i64 ((0 : Nat) : Int)] fr' → RToks (w.heap.size ≤ ·) w' (.slice ta (pageT S).length tc) (pageT S) → Below w.heap.size w w' → Q .normal ⟨fr', []⟩ w') :
    Code.wp Tryz.prog (readC [1, 1, 1, 1, 1, 1, 0, 0]) Q ⟨fr, []⟩ w := by
  refine rdopen28 hf ?_
  intros
  conv => arg 2; whnf
  have C := Lib.hid (refTokens_any F v S w h hm hS)
  obtain ⟨LT, hLT⟩ : ∃ LT, pageT S = LT := ⟨_, rfl⟩
  rw [hLT] at C hp
  have vs : ∃ a n c, v = .slice a n c := by obtain ⟨a, c, e, _⟩ := RdS.len h; exact ⟨a, _, c, e⟩
  obtain ⟨va, vn, vc, rfl⟩ := vs
  clear h hm hLT
  go_wp2_with fail
  refine C.out.mono ?_
  rintro e w3 ⟨r, rfl, hr, hb3⟩
  obtain ⟨ta, tc, rfl, _⟩ := RdS.len hr
  have HR := Lib.hid hr
  clear hr C
  go_wp2
  exact hp _ _ ta tc ⟨rfl, rfl⟩ HR.out hb3
set_option maxRecDepth 1000000 in
set_option maxHeartbeats 4000000 in
theorem rd14 (Q : Exit → Act → World → Prop) (w : World) {b5 b8 b11 : Nat} {fr : Array Value} {c0 c1 c2 c3 c4 c6 c7 c9 c10 c13 c15 c16 c17 c18 c19 c20 c21 c22 c23 c24 c25 c26 c27 c28 c29 c30 c31 c32 c33 c34 c35 c36 c37 c38 c39 c40 c41 c42 c43 c44 c45 c46 c47 c48 c49 c50 c51 c52 c53 c54 c55 c56 c57 : Value} (g : Nat) (tk : Int) (nm tx hr : Bs) (hf : Frm 183 [c0, c1, c2, c3, c4, ptr b5, c6, c7, ptr b8, c9, c10, ptr b11, .func (.func 76) #[] #[ptr b11, ptr b5, ptr b8], c13, ptr g, c15, c16, c17, c18, c19, c20, c21, c22, c23, c24, c25, c26, c27, c28, c29, c30, c31, c32, c33, c34, c35, c36, c37, c38, c39, c40, c41, c42, c43, c44, c45, c46, c47, c48, c49, c50, c51, c52, c53, c54, c55, c56, c57] fr) (hT : w.heap[g]? = some (.cells #[.int .i64 tk, str nm, str tx, str hr] 115 (0, 0)))
    (hp : ∀ (fr' : Array Value), Frm 183 [c0, c1, c2, c3, c4, ptr b5, c6, c7, ptr b8, c9, c10, ptr b11, .func (.func 76) #[] #[ptr b11, ptr b5, ptr b8], c13, ptr g, c15, c16, c17, c18, c19, c20, c21, c22, c23, c24, c25, c26, c27, c28, c29, c30, c31, c32, c33, c34, c35, c36, c37, c38, c39, c40, c41, c42, c43, c44, c45, c46, c47, c48, c49, c50, c51, c52, c53, .pointer (some ⟨g, 2, none⟩), str tx, .int .i64 (tx.length : Int), .int .i64 ((0 : Nat) : Int)] fr' → Q .normal ⟨fr', []⟩ w) :
    Code.wp Tryz.prog (readC [1, 1, 1, 1, 1, 1, 0, 1, 2, 2, 1, 1, 0, 2, 1, 1, 0, 2, 1, 4, 1, 3, 0]) Q ⟨fr, []⟩ w := by
  refine rdopen58 hf ?_
  intros
  conv => arg 2; whnf
  have q2 := cellAt' (i := 2) hT rfl
  go_wp2
  first | exact hp _ ⟨rfl, rfl⟩ | exact ⟨rfl, rfl⟩
set_option maxRecDepth 1000000 in
set_option maxHeartbeats 4000000 in
theorem rd15 (Q : Exit → Act → World → Prop) (w : World) {b5 b8 b11 : Nat} {fr : Array Value} {c0 c1 c2 c3 c4 c6 c7 c9 c10 c13 c14 c15 c16 c17 c18 c19 c20 c21 c22 c23 c24 c25 c26 c27 c28 c29 c30 c31 c32 c33 c34 c35 c36 c37 c38 c39 c40 c41 c42 c43 c44 c45 c46 c47 c48 c49 c50 c51 c52 c53 c54 c55 : Value} (j n : Nat) (hf : Frm 183 [c0, c1, c2, c3, c4, ptr b5, c6, c7, ptr b8, c9, c10, ptr b11, .func (.func 76) #[] #[ptr b11, ptr b5, ptr b8], c13, c14, c15, c16, c17, c18, c19, c20, c21, c22, c23, c24, c25, c26, c27, c28, c29, c30, c31, c32, c33, c34, c35, c36, c37, c38, c39, c40, c41, c42, c43, c44, c45, c46, c47, c48, c49, c50, c51, c52, c53, c54, c55, .int .i64 (n : Int), .int .i64 (j : Int)] fr)
    (hp : ∀ (fr' : Array Value), Frm 183 [c0, c1, c2, c3, c4, ptr b5, c6, c7, ptr b8, c9, c10, ptr b11, .func (.func 76) #[] #[ptr b11, ptr b5, ptr b8], c13, c14, c15, c16, c17, c18, c19, c20, c21, c22, c23, c24, c25, c26, c27, c28, c29, c30, c31, c32, c33, c34, c35, c36, c37, c38, c39, c40, c41, c42, c43, c44, c45, c46, c47, c48, c49, c50, c51, c52, c53, c54, c55, .int .i64 (n : Int), .int .i64 (j : Int)] fr' → fr'.getD 58 undef = .bool (decide (j < n)) → Q .normal ⟨fr', []⟩ w) :
    Code.wp Tryz.prog (readC [1, 1, 1, 1, 1, 1, 0, 1, 2, 2, 1, 1, 0, 2, 1, 1, 0, 2, 1, 4, 1, 3, 1, 2, 2, 0]) Q ⟨fr, []⟩ w := by
  refine rdopen58 hf ?_
  intros
  conv => arg 2; whnf
  by_cases h : j < n
  · rw [decide_eq_true h] at hp
    go_wp2
    exact hp _ ⟨rfl, rfl⟩ rfl
  · rw [decide_eq_false h] at hp
    go_wp2
    exact hp _ ⟨rfl, rfl⟩ rfl
set_option maxRecDepth 1000000 in
set_option maxHeartbeats 4000000 in
theorem rd16 (Q : Exit → Act → World → Prop) (w : World) {b5 b8 b11 : Nat} {fr : Array Value} {c0 c1 c2 c3 c4 c6 c7 c9 c10 c13 c14 c15 c16 c17 c18 c19 c20 c21 c22 c23 c24 c25 c26 c27 c28 c29 c30 c31 c32 c33 c34 c35 c36 c37 c38 c39 c40 c41 c42 c43 c44 c45 c46 c47 c48 c49 c50 c51 c52 c53 c54 c55 c56 : Value} (j : Nat) (hf : Frm 183 [c0, c1, c2, c3, c4, ptr b5, c6, c7, ptr b8, c9, c10, ptr b11, .func (.func 76) #[] #[ptr b11, ptr b5, ptr b8], c13, c14, c15, c16, c17, c18, c19, c20, c21, c22, c23, c24, c25, c26, c27, c28, c29, c30, c31, c32, c33, c34, c35, c36, c37, c38, c39, c40, c41, c42, c43, c44, c45, c46, c47, c48, c49, c50, c51, c52, c53, c54, c55, c56, .int .i64 (j : Int)] fr)
    (hp : ∀ (fr' : Array Value), Frm 183 [c0, c1, c2, c3, c4, ptr b5, c6, c7, ptr b8, c9, c10, ptr b11, .func (.func 76) #[] #[ptr b11, ptr b5, ptr b8], c13, c14, c15, c16, .int .i64 (j : Int), c18, c19, c20, c21, c22, c23, c24, c25, c26, c27, c28, c29, c30, c31, c32, c33, c34, c35, c36, c37, c38, c39, c40, c41, c42, c43, c44, c45, c46, c47, c48, c49, c50, c51, c52, c53, c54, c55, c56, .int .i64 (j : Int)] fr' → Q .normal ⟨fr', []⟩ w) :
    Code.wp Tryz.prog (readC [1, 1, 1, 1, 1, 1, 0, 1, 2, 2, 1, 1, 0, 2, 1, 1, 0, 2, 1, 4, 1, 3, 1, 2, 2, 1, 1, 0, 2, 0]) Q ⟨fr, []⟩ w := by
  refine rdopen58 hf ?_
  intros
  conv => arg 2; whnf
  go_wp2
  first | exact hp _ ⟨rfl, rfl⟩ | exact ⟨rfl, rfl⟩
set_option maxRecDepth 1000000 in
set_option maxHeartbeats 4000000 in
theorem rd17 (Q : Exit → Act → World → Prop) (w : World) {b5 b8 b11 : Nat} {fr : Array Value} {c0 c1 c2 c3 c4 c6 c7 c9 c10 c13 c15 c16 c18 c19 c20 c21 c22 c23 c24 c25 c26 c27 c28 c29 c30 c31 c32 c33 c34 c35 c36 c37 c38 c39 c40 c41 c42 c43 c44 c45 c46 c47 c48 c49 c50 c51 c52 c53 c54 c55 c56 c57 : Value} (g : Nat) (tk : Int) (nm tx hr : Bs) (j : Nat) (c : UInt8) (hf : Frm 183 [c0, c1, c2, c3, c4, ptr b5, c6, c7, ptr b8, c9, c10, ptr b11, .func (.func 76) #[] #[ptr b11, ptr b5, ptr b8], c13, ptr g, c15, c16, .int .i64 (j : Int), c18, c19, c20, c21, c22, c23, c24, c25, c26, c27, c28, c29, c30, c31, c32, c33, c34, c35, c36, c37, c38, c39, c40, c41, c42, c43, c44, c45, c46, c47, c48, c49, c50, c51, c52, c53, c54, c55, c56, c57] fr) (hT : w.heap[g]? = some (.cells #[.int .i64 tk, str nm, str tx, str hr] 115 (0, 0))) (hc : tx[j]? = some c)
    (hp : ∀ (fr' : Array Value), Frm 183 [c0, c1, c2, c3, c4, ptr b5, c6, c7, ptr b8, c9, c10, ptr b11, .func (.func 76) #[] #[ptr b11, ptr b5, ptr b8], c13, ptr g, c15, c16, .int .i64 (j : Int), .int .u8 c.toNat, c19, c20, c21, c22, c23, c24, c25, c26, c27, c28, c29, c30, c31, c32, c33, c34, c35, c36, c37, c38, c39, c40, c41, c42, c43, c44, c45, c46, c47, c48, c49, c50, c51, c52, c53, c54, c55, c56, c57] fr' → Q .normal ⟨fr', []⟩ w) :
    Code.wp Tryz.prog (readC [1, 1, 1, 1, 1, 1, 0, 1, 2, 2, 1, 1, 0, 2, 1, 1, 0, 2, 1, 4, 1, 3, 1, 2, 2, 1, 1, 0, 2, 1, 0]) Q ⟨fr, []⟩ w := by
  refine rdopen58 hf ?_
  intros
  conv => arg 2; whnf
  have q2 := cellAt' (i := 2) hT rfl
  have u := str_get hc
  have hlt := (List.getElem?_eq_some_iff.1 hc).1
  clear hc
  go_wp2
  first | exact hp _ ⟨rfl, rfl⟩ | exact ⟨rfl, rfl⟩
set_option maxRecDepth 1000000 in
set_option maxHeartbeats 4000000 in
theorem rd18 (Q : Exit → Act → World → Prop) (w : World) {b5 b8 b11 : Nat} {fr : Array Value} {c0 c1 c2 c3 c4 c6 c7 c9 c10 c13 c14 c15 c16 c17 c19 c20 c21 c22 c23 c24 c25 c26 c27 c28 c29 c30 c31 c32 c33 c34 c35 c36 c37 c38 c39 c40 c41 c42 c43 c44 c45 c46 c47 c48 c49 c50 c51 c52 c53 c54 c55 c56 c57 : Value} (c : UInt8) (hf : Frm 183 [c0, c1, c2, c3, c4, ptr b5, c6, c7, ptr b8, c9, c10, ptr b11, .func (.func 76) #[] #[ptr b11, ptr b5, ptr b8], c13, c14, c15, c16, c17, .int .u8 c.toNat, c19, c20, c21, c22, c23, c24, c25, c26, c27, c28, c29, c30, c31, c32, c33, c34, c35, c36, c37, c38, c39, c40, c41, c42, c43, c44, c45, c46, c47, c48, c49, c50, c51, c52, c53, c54, c55, c56, c57] fr)
    (hp : ∀ (fr' : Array Value), Frm 183 [c0, c1, c2, c3, c4, ptr b5, c6, c7, ptr b8, c9, c10, ptr b11, .func (.func 76) #[] #[ptr b11, ptr b5, ptr b8], c13, c14, c15, c16, c17, .int .u8 c.toNat, c19, c20, c21, c22, c23, c24, c25, c26, c27, c28, c29, c30, c31, c32, c33, c34, c35, c36, c37, c38, c39, c40, c41, c42, c43, c44, c45, c46, c47, c48, c49, c50, c51, c52, c53, c54, c55, c56, c57] fr' → fr'.getD 66 undef = .bool (decide (isBl c)) → Q .normal ⟨fr', []⟩ w) :
    Code.wp Tryz.prog (readC [1, 1, 1, 1, 1, 1, 0, 1, 2, 2, 1, 1, 0, 2, 1, 1, 0, 2, 1, 4, 1, 3, 1, 2, 2, 1, 1, 0, 2, 1, 1, 0, 0]) Q ⟨fr, []⟩ w := by
  refine rdopen58 hf ?_
  intros
  conv => arg 2; whnf
  have C := Tryz.strings_IndexByte ⟨#[9, 10, 13, 12]⟩ (c.toNat : Int) w
  rw [show ((c.toNat : Int).toNat.toUInt8) = c by simp] at C
  rw [← bl_idx c] at hp
  go_wp2_with fail
  refine C.mono ?_
  rintro e w3 ⟨rfl, hw3⟩
  replace hw3 := hw3.symm
  subst hw3
  go_wp2
  exact hp _ ⟨rfl, rfl⟩ rfl
set_option maxRecDepth 1000000 in
set_option maxHeartbeats 4000000 in
theorem rd19 (Q : Exit → Act → World → Prop) (w : World) {b5 b8 b11 : Nat} {fr : Array Value} {c0 c1 c2 c3 c4 c6 c7 c9 c10 c13 c14 c15 c16 c17 c18 c19 c20 c21 c22 c23 c24 c25 c26 c27 c28 c29 c30 c31 c32 c33 c34 c35 c36 c37 c38 c39 c40 c41 c42 c43 c44 c45 c46 c47 c48 c49 c50 c51 c52 c53 c54 c55 c56 c57 : Value} (hf : Frm 183 [c0, c1, c2, c3, c4, ptr b5, c6, c7, ptr b8, c9, c10, ptr b11, .func (.func 76) #[] #[ptr b11, ptr b5, ptr b8], c13, c14, c15, c16, c17, c18, c19, c20, c21, c22, c23, c24, c25, c26, c27, c28, c29, c30, c31, c32, c33, c34, c35, c36, c37, c38, c39, c40, c41, c42, c43, c44, c45, c46, c47, c48, c49, c50, c51, c52, c53, c54, c55, c56, c57] fr)
    (hp : ∀ (fr' : Array Value), Frm 183 [c0, c1, c2, c3, c4, ptr b5, c6, c7, ptr b8, c9, c10, ptr b11, .func (.func 76) #[] #[ptr b11, ptr b5, ptr b8], c13, c14, c15, c16, c17, .int .u8 ((32 : UInt8).toNat), c19, c20, c21, c22, c23, c24, c25, c26, c27, c28, c29, c30, c31, c32, c33, c34, c35, c36, c37, c38, c39, c40, c41, c42, c43, c44, c45, c46, c47, c48, c49, c50, c51, c52, c53, c54, c55, c56, c57] fr' → Q .normal ⟨fr', []⟩ w) :
    Code.wp Tryz.prog (readC [1, 1, 1, 1, 1, 1, 0, 1, 2, 2, 1, 1, 0, 2, 1, 1, 0, 2, 1, 4, 1, 3, 1, 2, 2, 1, 1, 0, 2, 1, 1, 0, 1, 3]) Q ⟨fr, []⟩ w := by
  refine rdopen58 hf ?_
  intros
  conv => arg 2; whnf
  go_wp2
  first | exact hp _ ⟨rfl, rfl⟩ | exact ⟨rfl, rfl⟩
set_option maxRecDepth 1000000 in
set_option maxHeartbeats 4000000 in
theorem rd21 (Q : Exit → Act → World → Prop) (w : World) {b5 b8 b11 : Nat} {fr : Array Value} {c0 c1 c2 c3 c4 c6 c7 c9 c10 c13 c14 c15 c16 c17 c18 c19 c20 c21 c22 c23 c24 c25 c26 c27 c28 c29 c30 c31 c32 c33 c34 c35 c36 c37 c38 c39 c40 c41 c42 c43 c44 c45 c46 c47 c48 c49 c50 c51 c52 c53 c54 c55 c56 c57 : Value} (hf : Frm 183 [c0, c1, c2, c3, c4, ptr b5, c6, c7, ptr b8, c9, c10, ptr b11, .func (.func 76) #[] #[ptr b11, ptr b5, ptr b8], c13, c14, c15, c16, c17, c18, c19, c20, c21, c22, c23, c24, c25, c26, c27, c28, c29, c30, c31, c32, c33, c34, c35, c36, c37, c38, c39, c40, c41, c42, c43, c44, c45, c46, c47, c48, c49, c50, c51, c52, c53, c54, c55, c56, c57] fr)
    (hp : ∀ (fr' : Array Value), Frm 183 [c0, c1, c2, c3, c4, ptr b5, c6, c7, ptr b8, c9, c10, ptr b11, .func (.func 76) #[] #[ptr b11, ptr b5, ptr b8], c13, c14, c15, c16, c17, .int .u8 ((63 : UInt8).toNat), c19, c20, c21, c22, c23, c24, c25, c26, c27, c28, c29, c30, c31, c32, c33, c34, c35, c36, c37, c38, c39, c40, c41, c42, c43, c44, c45, c46, c47, c48, c49, c50, c51, c52, c53, c54, c55, c56, c57] fr' → Q .normal ⟨fr', []⟩ w) :
    Code.wp Tryz.prog (readC [1, 1, 1, 1, 1, 1, 0, 1, 2, 2, 1, 1, 0, 2, 1, 1, 0, 2, 1, 4, 1, 3, 1, 2, 2, 1, 1, 0, 2, 1, 1, 1, 0, 1, 3]) Q ⟨fr, []⟩ w := by
  refine rdopen58 hf ?_
  intros
  conv => arg 2; whnf
  go_wp2
  first | exact hp _ ⟨rfl, rfl⟩ | exact ⟨rfl, rfl⟩
set_option maxRecDepth 1000000 in
set_option maxHeartbeats 4000000 in
theorem rd20 (Q : Exit → Act → World → Prop) (w : World) {b5 b8 b11 : Nat} {fr : Array Value} {c0 c1 c2 c3 c4 c6 c7 c9 c10 c13 c14 c15 c16 c17 c19 c20 c21 c22 c23 c24 c25 c26 c27 c28 c29 c30 c31 c32 c33 c34 c35 c36 c37 c38 c39 c40 c41 c42 c43 c44 c45 c46 c47 c48 c49 c50 c51 c52 c53 c54 c55 c56 c57 : Value} (c : UInt8) (hf : Frm 183 [c0, c1, c2, c3, c4, ptr b5, c6, c7, ptr b8, c9, c10, ptr b11, .func (.func 76) #[] #[ptr b11, ptr b5, ptr b8], c13, c14, c15, c16, c17, .int .u8 c.toNat, c19, c20, c21, c22, c23, c24, c25, c26, c27, c28, c29, c30, c31, c32, c33, c34, c35, c36, c37, c38, c39, c40, c41, c42, c43, c44, c45, c46, c47, c48, c49, c50, c51, c52, c53, c54, c55, c56, c57] fr)
    (hp : ∀ (fr' : Array Value), Frm 183 [c0, c1, c2, c3, c4, ptr b5, c6, c7, ptr b8, c9, c10, ptr b11, .func (.func 76) #[] #[ptr b11, ptr b5, ptr b8], c13, c14, c15, c16, c17, .int .u8 c.toNat, c19, c20, c21, c22, c23, c24, c25, c26, c27, c28, c29, c30, c31, c32, c33, c34, c35, c36, c37, c38, c39, c40, c41, c42, c43, c44, c45, c46, c47, c48, c49, c50, c51, c52, c53, c54, c55, c56, c57] fr' → fr'.getD 72 undef = .bool (decide (isOd c)) → Q .normal ⟨fr', []⟩ w) :
    Code.wp Tryz.prog (readC [1, 1, 1, 1, 1, 1, 0, 1, 2, 2, 1, 1, 0, 2, 1, 1, 0, 2, 1, 4, 1, 3, 1, 2, 2, 1, 1, 0, 2, 1, 1, 1, 0, 0]) Q ⟨fr, []⟩ w := by
  refine rdopen58 hf ?_
  intros
  conv => arg 2; whnf
  by_cases h1 : c.toNat < 32
  · rw [decide_eq_true (show isOd c from Or.inl (UInt8.lt_iff_toNat_lt.2 h1))] at hp
    have h1' : (c.toNat : Int) < 32 := by omega
    go_wp2
    exact hp _ ⟨rfl, rfl⟩ rfl
  · have h1' : ¬ (c.toNat : Int) < 32 := by omega
    by_cases h2 : 126 < c.toNat
    · rw [decide_eq_true (show isOd c from Or.inr (UInt8.lt_iff_toNat_lt.2 h2))] at hp
      have h2' : (126 : Int) < (c.toNat : Int) := by omega
      go_wp2
      exact hp _ ⟨rfl, rfl⟩ rfl
    · have h2' : ¬ (126 : Int) < (c.toNat : Int) := by omega
      rw [decide_eq_false (show ¬ isOd c from fun h => by rcases h with h | h; exact h1 (UInt8.lt_iff_toNat_lt.1 h); exact h2 (UInt8.lt_iff_toNat_lt.1 h))] at hp
      go_wp2
      exact hp _ ⟨rfl, rfl⟩ rfl
set_option maxRecDepth 1000000 in
set_option maxHeartbeats 4000000 in
theorem rd22 (Q : Exit → Act → World → Prop) (w : World) {b5 b8 b11 : Nat} {fr : Array Value} {c0 c1 c2 c3 c4 c6 c7 c10 c13 c14 c15 c16 c17 c19 c20 c21 c22 c23 c24 c25 c26 c27 c28 c29 c30 c31 c32 c33 c34 c35 c36 c37 c38 c39 c40 c41 c42 c43 c44 c45 c46 c47 c48 c49 c50 c51 c52 c53 c54 c55 c56 c57 : Value} (c : UInt8) (lk : Bs) (hf : Frm 183 [c0, c1, c2, c3, c4, ptr b5, c6, c7, ptr b8, str lk, c10, ptr b11, .func (.func 76) #[] #[ptr b11, ptr b5, ptr b8], c13, c14, c15, c16, c17, .int .u8 c.toNat, c19, c20, c21, c22, c23, c24, c25, c26, c27, c28, c29, c30, c31, c32, c33, c34, c35, c36, c37, c38, c39, c40, c41, c42, c43, c44, c45, c46, c47, c48, c49, c50, c51, c52, c53, c54, c55, c56, c57] fr)
    (hp : ∀ (fr' : Array Value), Frm 183 [c0, c1, c2, c3, c4, ptr b5, c6, c7, ptr b8, str lk, c10, ptr b11, .func (.func 76) #[] #[ptr b11, ptr b5, ptr b8], c13, c14, c15, c16, c17, .int .u8 c.toNat, ptr w.heap.size, c20, c21, c22, c23, c24, c25, c26, c27, c28, c29, c30, c31, c32, c33, c34, c35, c36, c37, c38, c39, c40, c41, c42, c43, c44, c45, c46, c47, c48, c49, c50, c51, c52, c53, c54, c55, c56, c57] fr' → Q .normal ⟨fr', []⟩ (w.alloc (.cells #[.int .u8 c.toNat, .int .i64 0, str lk] 58))) :
    Code.wp Tryz.prog (readC [1, 1, 1, 1, 1, 1, 0, 1, 2, 2, 1, 1, 0, 2, 1, 1, 0, 2, 1, 4, 1, 3, 1, 2, 2, 1, 1, 0, 2, 1, 1, 1, 1, 0]) Q ⟨fr, []⟩ w := by
  refine rdopen58 hf ?_
  intros
  conv => arg 2; whnf
  go_wp2
  first | exact hp _ ⟨rfl, rfl⟩ | exact ⟨rfl, rfl⟩
set_option maxRecDepth 1000000 in
set_option maxHeartbeats 4000000 in
theorem rd23 (Q : Exit → Act → World → Prop) (w : World) {b5 b8 b11 : Nat} {fr : Array Value} {c0 c1 c2 c3 c4 c7 c9 c10 c13 c14 c15 c16 c17 c18 c19 c20 c21 c22 c23 c24 c25 c26 c27 c28 c29 c30 c31 c32 c33 c34 c35 c36 c37 c38 c39 c40 c41 c42 c43 c44 c45 c46 c47 c48 c49 c50 c51 c52 c53 c54 c55 c56 c57 : Value} (b : Int) (hf : Frm 183 [c0, c1, c2, c3, c4, ptr b5, .int .i64 b, c7, ptr b8, c9, c10, ptr b11, .func (.func 76) #[] #[ptr b11, ptr b5, ptr b8], c13, c14, c15, c16, c17, c18, c19, c20, c21, c22, c23, c24, c25, c26, c27, c28, c29, c30, c31, c32, c33, c34, c35, c36, c37, c38, c39, c40, c41, c42, c43, c44, c45, c46, c47, c48, c49, c50, c51, c52, c53, c54, c55, c56, c57] fr)
    (hp : ∀ (fr' : Array Value), Frm 183 [c0, c1, c2, c3, c4, ptr b5, .int .i64 b, c7, ptr b8, c9, c10, ptr b11, .func (.func 76) #[] #[ptr b11, ptr b5, ptr b8], c13, c14, c15, c16, c17, c18, c19, c20, c21, c22, c23, c24, c25, c26, c27, c28, c29, c30, c31, c32, c33, c34, c35, c36, c37, c38, c39, c40, c41, c42, c43, c44, c45, c46, c47, c48, c49, c50, c51, c52, c53, c54, c55, c56, c57] fr' → fr'.getD 77 undef = .bool (decide (0 < b)) → Q .normal ⟨fr', []⟩ w) :
    Code.wp Tryz.prog (readC [1, 1, 1, 1, 1, 1, 0, 1, 2, 2, 1, 1, 0, 2, 1, 1, 0, 2, 1, 4, 1, 3, 1, 2, 2, 1, 1, 0, 2, 1, 1, 1, 1, 1, 0, 0]) Q ⟨fr, []⟩ w := by
  refine rdopen58 hf ?_
  intros
  conv => arg 2; whnf
  go_wp2
  exact hp _ ⟨rfl, rfl⟩ rfl
set_option maxRecDepth 1000000 in
set_option maxHeartbeats 4000000 in
theorem rd25 (Q : Exit → Act → World → Prop) (w : World) {b5 b8 b11 : Nat} {fr : Array Value} {c0 c1 c2 c3 c4 c6 c9 c10 c13 c14 c15 c16 c17 c18 c19 c20 c21 c22 c23 c24 c25 c26 c27 c28 c29 c30 c31 c32 c33 c34 c35 c36 c37 c38 c39 c40 c41 c42 c43 c44 c45 c46 c47 c48 c49 c50 c51 c52 c53 c54 c55 c56 c57 : Value} (b : Int) (hf : Frm 183 [c0, c1, c2, c3, c4, ptr b5, c6, .int .i64 b, ptr b8, c9, c10, ptr b11, .func (.func 76) #[] #[ptr b11, ptr b5, ptr b8], c13, c14, c15, c16, c17, c18, c19, c20, c21, c22, c23, c24, c25, c26, c27, c28, c29, c30, c31, c32, c33, c34, c35, c36, c37, c38, c39, c40, c41, c42, c43, c44, c45, c46, c47, c48, c49, c50, c51, c52, c53, c54, c55, c56, c57] fr)
    (hp : ∀ (fr' : Array Value), Frm 183 [c0, c1, c2, c3, c4, ptr b5, c6, .int .i64 b, ptr b8, c9, c10, ptr b11, .func (.func 76) #[] #[ptr b11, ptr b5, ptr b8], c13, c14, c15, c16, c17, c18, c19, c20, c21, c22, c23, c24, c25, c26, c27, c28, c29, c30, c31, c32, c33, c34, c35, c36, c37, c38, c39, c40, c41, c42, c43, c44, c45, c46, c47, c48, c49, c50, c51, c52, c53, c54, c55, c56, c57] fr' → fr'.getD 83 undef = .bool (decide (0 < b)) → Q .normal ⟨fr', []⟩ w) :
    Code.wp Tryz.prog (readC [1, 1, 1, 1, 1, 1, 0, 1, 2, 2, 1, 1, 0, 2, 1, 1, 0, 2, 1, 4, 1, 3, 1, 2, 2, 1, 1, 0, 2, 1, 1, 1, 1, 1, 1, 0, 0]) Q ⟨fr, []⟩ w := by
  refine rdopen58 hf ?_
  intros
  conv => arg 2; whnf
  go_wp2
  exact hp _ ⟨rfl, rfl⟩ rfl
set_option maxRecDepth 1000000 in
set_option maxHeartbeats 4000000 in
theorem rd24 (Q : Exit → Act → World → Prop) (w : World) {b5 b8 b11 : Nat} {fr : Array Value} {c0 c1 c2 c3 c4 c6 c7 c9 c10 c13 c14 c15 c16 c17 c18 c20 c21 c22 c23 c24 c25 c26 c27 c28 c29 c30 c31 c32 c33 c34 c35 c36 c37 c38 c39 c40 c41 c42 c43 c44 c45 c46 c47 c48 c49 c50 c51 c52 c53 c54 c55 c56 c57 : Value} (gi : Nat) (c : UInt8) (m : Int) (lk : Bs) (hf : Frm 183 [c0, c1, c2, c3, c4, ptr b5, c6, c7, ptr b8, c9, c10, ptr b11, .func (.func 76) #[] #[ptr b11, ptr b5, ptr b8], c13, c14, c15, c16, c17, c18, ptr gi, c20, c21, c22, c23, c24, c25, c26, c27, c28, c29, c30, c31, c32, c33, c34, c35, c36, c37, c38, c39, c40, c41, c42, c43, c44, c45, c46, c47, c48, c49, c50, c51, c52, c53, c54, c55, c56, c57] fr) (hI : w.heap[gi]? = some (.cells #[.int .u8 c.toNat, .int .i64 m, str lk] 58 (0, 0))) (hm : 0 ≤ m ∧ m ≤ 10)
    (hp : ∀ (fr' : Array Value) (w' : World), Frm 183 [c0, c1, c2, c3, c4, ptr b5, c6, c7, ptr b8, c9, c10, ptr b11, .func (.func 76) #[] #[ptr b11, ptr b5, ptr b8], c13, c14, c15, c16, c17, c18, ptr gi, c20, c21, c22, c23, c24, c25, c26, c27, c28, c29, c30, c31, c32, c33, c34, c35, c36, c37, c38, c39, c40, c41, c42, c43, c44, c45, c46, c47, c48, c49, c50, c51, c52, c53, c54, c55, c56, c57] fr' → w'.heap[gi]? = some (.cells #[.int .u8 c.toNat, .int .i64 (m + 1), str lk] 58 (0, 0)) → Below gi w w' → Q .normal ⟨fr', []⟩ w') :
    Code.wp Tryz.prog (readC [1, 1, 1, 1, 1, 1, 0, 1, 2, 2, 1, 1, 0, 2, 1, 1, 0, 2, 1, 4, 1, 3, 1, 2, 2, 1, 1, 0, 2, 1, 1, 1, 1, 1, 0, 1, 3]) Q ⟨fr, []⟩ w := by
  refine rdopen58 hf ?_
  intros
  conv => arg 2; whnf
  have q1 := cellAt' (i := 1) hI rfl
  have f1 : ∀ i, w.frozen? ⟨gi, i, none⟩ = false := fun i => Lib.frozen_of_heap hI _
  have hwr : IntKind.i64.wrap (m + 1) = m + 1 := IntWalk.i64_in _ (by omega)
  go_wp2
  exact hp _ _ ⟨rfl, rfl⟩ (by simpa using heap_set (i := 1) (.int .i64 (m + 1)) hI) ((Below.refl gi w).setCell (p := ⟨gi, 1, none⟩) (Nat.le_refl _) _)
set_option maxRecDepth 1000000 in
set_option maxHeartbeats 4000000 in
theorem rd26 (Q : Exit → Act → World → Prop) (w : World) {b5 b8 b11 : Nat} {fr : Array Value} {c0 c1 c2 c3 c4 c6 c7 c9 c10 c13 c14 c15 c16 c17 c18 c20 c21 c22 c23 c24 c25 c26 c27 c28 c29 c30 c31 c32 c33 c34 c35 c36 c37 c38 c39 c40 c41 c42 c43 c44 c45 c46 c47 c48 c49 c50 c51 c52 c53 c54 c55 c56 c57 : Value} (gi : Nat) (c : UInt8) (m : Int) (lk : Bs) (hf : Frm 183 [c0, c1, c2, c3, c4, ptr b5, c6, c7, ptr b8, c9, c10, ptr b11, .func (.func 76) #[] #[ptr b11, ptr b5, ptr b8], c13, c14, c15, c16, c17, c18, ptr gi, c20, c21, c22, c23, c24, c25, c26, c27, c28, c29, c30, c31, c32, c33, c34, c35, c36, c37, c38, c39, c40, c41, c42, c43, c44, c45, c46, c47, c48, c49, c50, c51, c52, c53, c54, c55, c56, c57] fr) (hI : w.heap[gi]? = some (.cells #[.int .u8 c.toNat, .int .i64 m, str lk] 58 (0, 0))) (hm : 0 ≤ m ∧ m ≤ 10)
    (hp : ∀ (fr' : Array Value) (w' : World), Frm 183 [c0, c1, c2, c3, c4, ptr b5, c6, c7, ptr b8, c9, c10, ptr b11, .func (.func 76) #[] #[ptr b11, ptr b5, ptr b8], c13, c14, c15, c16, c17, c18, ptr gi, c20, c21, c22, c23, c24, c25, c26, c27, c28, c29, c30, c31, c32, c33, c34, c35, c36, c37, c38, c39, c40, c41, c42, c43, c44, c45, c46, c47, c48, c49, c50, c51, c52, c53, c54, c55, c56, c57] fr' → w'.heap[gi]? = some (.cells #[.int .u8 c.toNat, .int .i64 (m + 2), str lk] 58 (0, 0)) → Below gi w w' → Q .normal ⟨fr', []⟩ w') :
    Code.wp Tryz.prog (readC [1, 1, 1, 1, 1, 1, 0, 1, 2, 2, 1, 1, 0, 2, 1, 1, 0, 2, 1, 4, 1, 3, 1, 2, 2, 1, 1, 0, 2, 1, 1, 1, 1, 1, 1, 0, 1, 3]) Q ⟨fr, []⟩ w := by
  refine rdopen58 hf ?_
  intros
  conv => arg 2; whnf
  have q1 := cellAt' (i := 1) hI rfl
  have f1 : ∀ i, w.frozen? ⟨gi, i, none⟩ = false := fun i => Lib.frozen_of_heap hI _
  have hwr : IntKind.i64.wrap (m + 2) = m + 2 := IntWalk.i64_in _ (by omega)
  go_wp2
  exact hp _ _ ⟨rfl, rfl⟩ (by simpa using heap_set (i := 1) (.int .i64 (m + 2)) hI) ((Below.refl gi w).setCell (p := ⟨gi, 1, none⟩) (Nat.le_refl _) _)
set_option maxRecDepth 1000000 in
set_option maxHeartbeats 4000000 in
theorem rd27 (Q : Exit → Act → World → Prop) (w : World) {b5 b8 b11 : Nat} {fr : Array Value} {c0 c1 c2 c3 c4 c6 c7 c9 c10 c13 c14 c15 c16 c17 c18 c20 c21 c22 c23 c24 c25 c26 c27 c28 c29 c30 c31 c32 c33 c34 c35 c36 c37 c38 c39 c40 c41 c42 c43 c44 c45 c46 c47 c48 c49 c50 c51 c52 c53 c54 c55 c56 c57 : Value} {B B1 : Nat} {wt : World} {d : List It} {kind : Int} {inn : Bool} (gi : Nat) (c : UInt8) (m : Int) (lk : Bs) (hf : Frm 183 [c0, c1, c2, c3, c4, ptr b5, c6, c7, ptr b8, c9, c10, ptr b11, .func (.func 76) #[] #[ptr b11, ptr b5, ptr b8], c13, c14, c15, c16, c17, c18, ptr gi, c20, c21, c22, c23, c24, c25, c26, c27, c28, c29, c30, c31, c32, c33, c34, c35, c36, c37, c38, c39, c40, c41, c42, c43, c44, c45, c46, c47, c48, c49, c50, c51, c52, c53, c54, c55, c56, c57] fr) (hR : RS B B1 b5 b8 b11 wt w d kind inn) (hI : w.heap[gi]? = some (.cells #[.int .u8 c.toNat, .int .i64 m, str lk] 58 (0, 0))) (hl : d.length ≤ 100000)
    (hp : ∀ (fr' : Array Value) (w' : World), Frm 183 [c0, c1, c2, c3, c4, ptr b5, c6, c7, ptr b8, c9, c10, ptr b11, .func (.func 76) #[] #[ptr b11, ptr b5, ptr b8], c13, c14, c15, c16, c17, c18, ptr gi, c20, c21, c22, c23, c24, c25, c26, c27, c28, c29, c30, c31, c32, c33, c34, c35, c36, c37, c38, c39, c40, c41, c42, c43, c44, c45, c46, c47, c48, c49, c50, c51, c52, c53, c54, c55, c56, c57] fr' → RS B B1 b5 b8 b11 wt w' (d ++ [⟨c, m, lk⟩]) kind inn → Keeps b5 b8 b11 w w' → Q .normal ⟨fr', []⟩ w') :
    Code.wp Tryz.prog (readC [1, 1, 1, 1, 1, 1, 0, 1, 2, 2, 1, 1, 0, 2, 1, 1, 0, 2, 1, 4, 1, 3, 1, 2, 2, 1, 1, 0, 2, 1, 1, 1, 1, 1, 1, 1]) Q ⟨fr, []⟩ w := by
  refine rdopen58 hf ?_
  intros
  conv => arg 2; whnf
  obtain ⟨da, dc, h5, ho⟩ := hR.hd
  have x5 := cellAt' (i := 0) h5 rfl
  have q0 := cellAt' (i := 0) hI rfl
  have q1 := cellAt' (i := 1) hI rfl
  have q2 := cellAt' (i := 2) hI rfl
  have HR := Lib.hid hR
  have hO := Lib.hid ho
  have h5' := Lib.hid h5
  have hsz := hR.siz
  have hb5 := hR.o5.2
  clear ho h5 hR hI
  go_wp2_with (at_builtin; refine wpList_doc rfl (.tmp 88) (.tmp 90) rfl B1 w.heap.size _ d ⟨c, m, lk⟩ rfl (hO.out.below (bal (brf _) _) (fun _ _ _ r => r)) rfl (heap_new _ _) (by omega) (Nat.le_trans hsz (by simp)) ?_; intro a' c' wp ho' hb' hgr'; have hbb := ((bal (brf w) (.cells #[.int .u8 c.toNat, .int .i64 m, str lk] 58)).mono hsz).trans hb'; have k5 := (hbb.block b5 hb5).trans h5'.out; have y5 := cellAt' (i := 0) k5 rfl; have f5 : ∀ i, wp.frozen? ⟨b5, i, none⟩ = false := fun i => Lib.frozen_of_heap k5 _; clear k5)
  have e1 : (d ++ [(⟨c, m, lk⟩ : It)]).length = d.length + 1 := by simp
  rw [← e1] at ho'
  have HF := HR.out.doc' hbb ho'
  rw [e1] at HF
  clear e1 ho' y5 f5
  exact hp _ _ ⟨rfl, rfl⟩ HF ((Keeps.app hO.out hgr').set (Or.inl rfl) _)
set_option maxRecDepth 1000000 in
set_option maxHeartbeats 4000000 in
theorem rd28 (Q : Exit → Act → World → Prop) (w : World) {b5 b8 b11 : Nat} {fr : Array Value} {c0 c1 c2 c3 c4 c6 c7 c9 c10 c13 c14 c15 c16 c17 c18 c19 c20 c21 c22 c23 c24 c25 c26 c27 c28 c29 c30 c31 c32 c33 c34 c35 c36 c37 c38 c39 c40 c41 c42 c43 c44 c45 c46 c47 c48 c49 c50 c51 c52 c53 c54 c55 c56 : Value} (j : Nat) (hf : Frm 183 [c0, c1, c2, c3, c4, ptr b5, c6, c7, ptr b8, c9, c10, ptr b11, .func (.func 76) #[] #[ptr b11, ptr b5, ptr b8], c13, c14, c15, c16, c17, c18, c19, c20, c21, c22, c23, c24, c25, c26, c27, c28, c29, c30, c31, c32, c33, c34, c35, c36, c37, c38, c39, c40, c41, c42, c43, c44, c45, c46, c47, c48, c49, c50, c51, c52, c53, c54, c55, c56, .int .i64 (j : Int)] fr) (hj : j ≤ 100000)
    (hp : ∀ (fr' : Array Value), Frm 183 [c0, c1, c2, c3, c4, ptr b5, c6, c7, ptr b8, c9, c10, ptr b11, .func (.func 76) #[] #[ptr b11, ptr b5, ptr b8], c13, c14, c15, c16, c17, c18, c19, c20, c21, c22, c23, c24, c25, c26, c27, c28, c29, c30, c31, c32, c33, c34, c35, c36, c37, c38, c39, c40, c41, c42, c43, c44, c45, c46, c47, c48, c49, c50, c51, c52, c53, c54, c55, c56, .int .i64 ((j + 1 : Nat) : Int)] fr' → Q .normal ⟨fr', []⟩ w) :
    Code.wp Tryz.prog (readC [1, 1, 1, 1, 1, 1, 0, 1, 2, 2, 1, 1, 0, 2, 1, 1, 0, 2, 1, 4, 1, 3, 1, 2, 2, 1, 1, 1]) Q ⟨fr, []⟩ w := by
  refine rdopen58 hf ?_
  intros
  conv => arg 2; whnf
  go_wp2
  first | exact hp _ ⟨rfl, rfl⟩ | exact ⟨rfl, rfl⟩
set_option maxRecDepth 1000000 in
set_option maxHeartbeats 4000000 in
theorem rd35_2 (Q : Exit → Act → World → Prop) (w : World) {b5 b8 b11 : Nat} {fr : Array Value} {c0 c1 c2 c3 c4 c7 c9 c10 c13 c15 c16 c17 c18 c19 c20 c21 c22 c23 c24 c25 c26 c27 : Value} (b : Int) (g : Nat) (nm tx hr : Bs) (hf : Frm 183 [c0, c1, c2, c3, c4, ptr b5, .int .i64 b, c7, ptr b8, c9, c10, ptr b11, .func (.func 76) #[] #[ptr b11, ptr b5, ptr b8], c13, ptr g, c15, c16, c17, c18, c19, c20, c21, c22, c23, c24, c25, c26, c27] fr) (hT : w.heap[g]? = some (.cells #[.int .i64 2, str nm, str tx, str hr] 115 (0, 0))) (hb : 0 ≤ b ∧ b ≤ 1000000)
    (hp : ∀ (fr' : Array Value) (w' : World), Frm 183 [c0, c1, c2, c3, c4, ptr b5, .int .i64 (b + 1), c7, ptr b8, c9, c10, ptr b11, .func (.func 76) #[] #[ptr b11, ptr b5, ptr b8], c13, ptr g, c15, c16, c17, c18, c19, c20, c21, c22, c23, c24, c25, c26, c27] fr' → Below w.heap.size w w' → Q .normal ⟨fr', []⟩ w') :
    Code.wp Tryz.prog (readC [1, 1, 1, 1, 1, 1, 0, 1, 2, 2, 1, 1, 0, 2, 1, 1, 0, 2, 1, 4, 1, 4, 1, 4, 1, 4, 1, 3]) Q ⟨fr, []⟩ w := by
  refine rdopen28 hf ?_
  intros
  conv => arg 2; whnf
  have q0 := cellAt' (i := 0) hT rfl
  have hgl : g < w.heap.size := lt_of_heap hT
  have hmm := @run_makeMap Tryz.prog
  have hb0 := bal (brf w) (.map #[] 0)
  have o0 := World.ownsMap_made (H := Unit) w Tryz.prog 3 (plainElem Tryz.prog 3)
  obtain ⟨w1, r1, o1, g1⟩ := o0.update lawI Tryz.underlying125 (by decide) (key := .int .i64 2) (val := .int .i64 1) (Maps.keyOf_int_mk Tryz.underlying3 (by decide)) (plainElem_int Tryz.underlying3 (by decide))
  have hb1 := hb0.grown g1 hb0.size (fun j hj => by cases hj; exact Nat.le_refl _)
  obtain ⟨w2, r2, o2, g2⟩ := o1.update lawI Tryz.underlying125 (by decide) (key := .int .i64 3) (val := .int .i64 (-1)) (Maps.keyOf_int_mk Tryz.underlying3 (by decide)) (plainElem_int Tryz.underlying3 (by decide))
  have hb2 := hb1.grown g2 hb1.size (fun j hj => by cases hj; exact Nat.le_refl _)
  obtain ⟨cc, hrun, hat, _⟩ := o2.lookup_int lawI Tryz.underlying125 Tryz.underlying3 (zeroI _) (key := .int .i64 2) (Maps.keyOf_int_mk Tryz.underlying3 (by decide))
  obtain rfl : 1 = cc := by
    have e := MD2.symm.trans hat
    injection e with e; injection e
  have q0' := (hb2.cell (p := ⟨g, 0, none⟩) hgl).trans q0
  have hwr : IntKind.i64.wrap (b + 1) = b + 1 := IntWalk.i64_in _ (by omega)
  have hmx : max 0 (b + 1) = b + 1 := by omega
  have HB := Lib.hid hb2
  clear hT o0 o1 o2 g1 g2 hb0 hb1 hb2 hat
  go_wp2
  exact hp _ _ ⟨by rfl, by first | rfl | simp [hmx]⟩ HB.out
set_option maxRecDepth 1000000 in
set_option maxHeartbeats 4000000 in
theorem rd35_3 (Q : Exit → Act → World → Prop) (w : World) {b5 b8 b11 : Nat} {fr : Array Value} {c0 c1 c2 c3 c4 c7 c9 c10 c13 c15 c16 c17 c18 c19 c20 c21 c22 c23 c24 c25 c26 c27 : Value} (b : Int) (g : Nat) (nm tx hr : Bs) (hf : Frm 183 [c0, c1, c2, c3, c4, ptr b5, .int .i64 b, c7, ptr b8, c9, c10, ptr b11, .func (.func 76) #[] #[ptr b11, ptr b5, ptr b8], c13, ptr g, c15, c16, c17, c18, c19, c20, c21, c22, c23, c24, c25, c26, c27] fr) (hT : w.heap[g]? = some (.cells #[.int .i64 3, str nm, str tx, str hr] 115 (0, 0))) (hb : 0 ≤ b ∧ b ≤ 1000000)
    (hp : ∀ (fr' : Array Value) (w' : World), Frm 183 [c0, c1, c2, c3, c4, ptr b5, .int .i64 (max 0 (b - 1)), c7, ptr b8, c9, c10, ptr b11, .func (.func 76) #[] #[ptr b11, ptr b5, ptr b8], c13, ptr g, c15, c16, c17, c18, c19, c20, c21, c22, c23, c24, c25, c26, c27] fr' → Below w.heap.size w w' → Q .normal ⟨fr', []⟩ w') :
    Code.wp Tryz.prog (readC [1, 1, 1, 1, 1, 1, 0, 1, 2, 2, 1, 1, 0, 2, 1, 1, 0, 2, 1, 4, 1, 4, 1, 4, 1, 4, 1, 3]) Q ⟨fr, []⟩ w := by
  refine rdopen28 hf ?_
  intros
  conv => arg 2; whnf
  have q0 := cellAt' (i := 0) hT rfl
  have hgl : g < w.heap.size := lt_of_heap hT
  have hmm := @run_makeMap Tryz.prog
  have hb0 := bal (brf w) (.map #[] 0)
  have o0 := World.ownsMap_made (H := Unit) w Tryz.prog 3 (plainElem Tryz.prog 3)
  obtain ⟨w1, r1, o1, g1⟩ := o0.update lawI Tryz.underlying125 (by decide) (key := .int .i64 2) (val := .int .i64 1) (Maps.keyOf_int_mk Tryz.underlying3 (by decide)) (plainElem_int Tryz.underlying3 (by decide))
  have hb1 := hb0.grown g1 hb0.size (fun j hj => by cases hj; exact Nat.le_refl _)
  obtain ⟨w2, r2, o2, g2⟩ := o1.update lawI Tryz.underlying125 (by decide) (key := .int .i64 3) (val := .int .i64 (-1)) (Maps.keyOf_int_mk Tryz.underlying3 (by decide)) (plainElem_int Tryz.underlying3 (by decide))
  have hb2 := hb1.grown g2 hb1.size (fun j hj => by cases hj; exact Nat.le_refl _)
  obtain ⟨cc, hrun, hat, _⟩ := o2.lookup_int lawI Tryz.underlying125 Tryz.underlying3 (zeroI _) (key := .int .i64 3) (Maps.keyOf_int_mk Tryz.underlying3 (by decide))
  obtain rfl : (-1) = cc := by
    have e := MD3.symm.trans hat
    injection e with e; injection e
  have q0' := (hb2.cell (p := ⟨g, 0, none⟩) hgl).trans q0
  have hwr : IntKind.i64.wrap (b + (-1)) = b + (-1) := IntWalk.i64_in _ (by omega)
  have hmx : max 0 (b + (-1)) = max 0 (b - 1) := by omega
  have HB := Lib.hid hb2
  clear hT o0 o1 o2 g1 g2 hb0 hb1 hb2 hat
  go_wp2
  exact hp _ _ ⟨by rfl, by first | rfl | simp [hmx]⟩ HB.out
set_option maxRecDepth 1000000 in
set_option maxHeartbeats 4000000 in
theorem rd37_2 (Q : Exit → Act → World → Prop) (w : World) {b5 b8 b11 : Nat} {fr : Array Value} {c0 c1 c2 c3 c4 c6 c9 c10 c13 c15 c16 c17 c18 c19 c20 c21 c22 c23 c24 c25 c26 c27 : Value} (b : Int) (g : Nat) (nm tx hr : Bs) (hf : Frm 183 [c0, c1, c2, c3, c4, ptr b5, c6, .int .i64 b, ptr b8, c9, c10, ptr b11, .func (.func 76) #[] #[ptr b11, ptr b5, ptr b8], c13, ptr g, c15, c16, c17, c18, c19, c20, c21, c22, c23, c24, c25, c26, c27] fr) (hT : w.heap[g]? = some (.cells #[.int .i64 2, str nm, str tx, str hr] 115 (0, 0))) (hb : 0 ≤ b ∧ b ≤ 1000000)
    (hp : ∀ (fr' : Array Value) (w' : World), Frm 183 [c0, c1, c2, c3, c4, ptr b5, c6, .int .i64 (b + 1), ptr b8, c9, c10, ptr b11, .func (.func 76) #[] #[ptr b11, ptr b5, ptr b8], c13, ptr g, c15, c16, c17, c18, c19, c20, c21, c22, c23, c24, c25, c26, c27] fr' → Below w.heap.size w w' → Q .normal ⟨fr', []⟩ w') :
    Code.wp Tryz.prog (readC [1, 1, 1, 1, 1, 1, 0, 1, 2, 2, 1, 1, 0, 2, 1, 1, 0, 2, 1, 4, 1, 4, 1, 4, 1, 4, 1, 4, 1, 3]) Q ⟨fr, []⟩ w := by
  refine rdopen28 hf ?_
  intros
  conv => arg 2; whnf
  have q0 := cellAt' (i := 0) hT rfl
  have hgl : g < w.heap.size := lt_of_heap hT
  have hmm := @run_makeMap Tryz.prog
  have hb0 := bal (brf w) (.map #[] 0)
  have o0 := World.ownsMap_made (H := Unit) w Tryz.prog 3 (plainElem Tryz.prog 3)
  obtain ⟨w1, r1, o1, g1⟩ := o0.update lawI Tryz.underlying125 (by decide) (key := .int .i64 2) (val := .int .i64 1) (Maps.keyOf_int_mk Tryz.underlying3 (by decide)) (plainElem_int Tryz.underlying3 (by decide))
  have hb1 := hb0.grown g1 hb0.size (fun j hj => by cases hj; exact Nat.le_refl _)
  obtain ⟨w2, r2, o2, g2⟩ := o1.update lawI Tryz.underlying125 (by decide) (key := .int .i64 3) (val := .int .i64 (-1)) (Maps.keyOf_int_mk Tryz.underlying3 (by decide)) (plainElem_int Tryz.underlying3 (by decide))
  have hb2 := hb1.grown g2 hb1.size (fun j hj => by cases hj; exact Nat.le_refl _)
  obtain ⟨cc, hrun, hat, _⟩ := o2.lookup_int lawI Tryz.underlying125 Tryz.underlying3 (zeroI _) (key := .int .i64 2) (Maps.keyOf_int_mk Tryz.underlying3 (by decide))
  obtain rfl : 1 = cc := by
    have e := MD2.symm.trans hat
    injection e with e; injection e
  have q0' := (hb2.cell (p := ⟨g, 0, none⟩) hgl).trans q0
  have hwr : IntKind.i64.wrap (b + 1) = b + 1 := IntWalk.i64_in _ (by omega)
  have hmx : max 0 (b + 1) = b + 1 := by omega
  have HB := Lib.hid hb2
  clear hT o0 o1 o2 g1 g2 hb0 hb1 hb2 hat
  go_wp2
  exact hp _ _ ⟨by rfl, by first | rfl | simp [hmx]⟩ HB.out
set_option maxRecDepth 1000000 in
set_option maxHeartbeats 4000000 in
theorem rd37_3 (Q : Exit → Act → World → Prop) (w : World) {b5 b8 b11 : Nat} {fr : Array Value} {c0 c1 c2 c3 c4 c6 c9 c10 c13 c15 c16 c17 c18 c19 c20 c21 c22 c23 c24 c25 c26 c27 : Value} (b : Int) (g : Nat) (nm tx hr : Bs) (hf : Frm 183 [c0, c1, c2, c3, c4, ptr b5, c6, .int .i64 b, ptr b8, c9, c10, ptr b11, .func (.func 76) #[] #[ptr b11, ptr b5, ptr b8], c13, ptr g, c15, c16, c17, c18, c19, c20, c21, c22, c23, c24, c25, c26, c27] fr) (hT : w.heap[g]? = some (.cells #[.int .i64 3, str nm, str tx, str hr] 115 (0, 0))) (hb : 0 ≤ b ∧ b ≤ 1000000)
    (hp : ∀ (fr' : Array Value) (w' : World), Frm 183 [c0, c1, c2, c3, c4, ptr b5, c6, .int .i64 (max 0 (b - 1)), ptr b8, c9, c10, ptr b11, .func (.func 76) #[] #[ptr b11, ptr b5, ptr b8], c13, ptr g, c15, c16, c17, c18, c19, c20, c21, c22, c23, c24, c25, c26, c27] fr' → Below w.heap.size w w' → Q .normal ⟨fr', []⟩ w') :
    Code.wp Tryz.prog (readC [1, 1, 1, 1, 1, 1, 0, 1, 2, 2, 1, 1, 0, 2, 1, 1, 0, 2, 1, 4, 1, 4, 1, 4, 1, 4, 1, 4, 1, 3]) Q ⟨fr, []⟩ w := by
  refine rdopen28 hf ?_
  intros
  conv => arg 2; whnf
  have q0 := cellAt' (i := 0) hT rfl
  have hgl : g < w.heap.size := lt_of_heap hT
  have hmm := @run_makeMap Tryz.prog
  have hb0 := bal (brf w) (.map #[] 0)
  have o0 := World.ownsMap_made (H := Unit) w Tryz.prog 3 (plainElem Tryz.prog 3)
  obtain ⟨w1, r1, o1, g1⟩ := o0.update lawI Tryz.underlying125 (by decide) (key := .int .i64 2) (val := .int .i64 1) (Maps.keyOf_int_mk Tryz.underlying3 (by decide)) (plainElem_int Tryz.underlying3 (by decide))
  have hb1 := hb0.grown g1 hb0.size (fun j hj => by cases hj; exact Nat.le_refl _)
  obtain ⟨w2, r2, o2, g2⟩ := o1.update lawI Tryz.underlying125 (by decide) (key := .int .i64 3) (val := .int .i64 (-1)) (Maps.keyOf_int_mk Tryz.underlying3 (by decide)) (plainElem_int Tryz.underlying3 (by decide))
  have hb2 := hb1.grown g2 hb1.size (fun j hj => by cases hj; exact Nat.le_refl _)
  obtain ⟨cc, hrun, hat, _⟩ := o2.lookup_int lawI Tryz.underlying125 Tryz.underlying3 (zeroI _) (key := .int .i64 3) (Maps.keyOf_int_mk Tryz.underlying3 (by decide))
  obtain rfl : (-1) = cc := by
    have e := MD3.symm.trans hat
    injection e with e; injection e
  have q0' := (hb2.cell (p := ⟨g, 0, none⟩) hgl).trans q0
  have hwr : IntKind.i64.wrap (b + (-1)) = b + (-1) := IntWalk.i64_in _ (by omega)
  have hmx : max 0 (b + (-1)) = max 0 (b - 1) := by omega
  have HB := Lib.hid hb2
  clear hT o0 o1 o2 g1 g2 hb0 hb1 hb2 hat
  go_wp2
  exact hp _ _ ⟨by rfl, by first | rfl | simp [hmx]⟩ HB.out
set_option maxRecDepth 1000000 in
set_option maxHeartbeats 4000000 in
theorem rd55 (Q : Exit → Act → World → Prop) (w : World) {b5 b8 b11 : Nat} {fr : Array Value} {c0 c1 c2 c3 c4 c6 c7 c9 c10 c13 c14 c15 c16 c17 c18 c19 c20 c21 c22 c23 c24 c25 c26 c27 : Value} {B B1 : Nat} {wt : World} {kind : Int} {inn : Bool} (hf : Frm 183 [c0, c1, c2, c3, c4, ptr b5, c6, c7, ptr b8, c9, c10, ptr b11, .func (.func 76) #[] #[ptr b11, ptr b5, ptr b8], c13, c14, c15, c16, c17, c18, c19, c20, c21, c22, c23, c24, c25, c26, c27] fr) (hR : RS B B1 b5 b8 b11 wt w [] kind inn)
    (hp : ∀ (fr' : Array Value) (w' : World) (da : Option Addr) (dc : Nat), Frm 183 [c0, c1, c2, c3, c4, ptr b5, c6, c7, ptr b8, c9, c10, ptr b11, .func (.func 76) #[] #[ptr b11, ptr b5, ptr b8], c13, c14, c15, c16, c17, c18, c19, c20, c21, c22, c23, c24, c25, c26, c27] fr' → w'.heap[b5]? = some (.cells #[.slice da 1 dc] 23 (0, 0)) → RItems (B ≤ ·) w' (.slice da 1 dc) [⟨10, 0, []⟩] → Below B wt w' → Q .normal ⟨fr', []⟩ w') :
    Code.wp Tryz.prog (readC [1, 1, 1, 1, 1, 1, 1, 0, 1, 1, 3]) Q ⟨fr, []⟩ w := by
  refine rdopen28 hf ?_
  intros
  conv => arg 2; whnf
  obtain ⟨da, dc, h5, ho⟩ := hR.hd
  have x5 := cellAt' (i := 0) h5 rfl
  have f5 : ∀ c t, (w.alloc (.cells c t)).frozen? ⟨b5, 0, none⟩ = false := fun c t => by rw [← Lib.frozen_of_heap h5 0]; exact frozen?_alloc_cells w c t _
  have hg5 := lt_of_heap h5
  have q5 : ∀ o, (w.alloc o).cell? ⟨b5, 0, none⟩ = some (.slice da ([] : List It).length dc) := fun o => (World.cell?_alloc_lt (w := w) (a := ⟨b5, 0, none⟩) (o := o) hg5).trans x5
  have k5 : (w.setCell ⟨b5, 0, none⟩ (.slice (some ⟨w.heap.size, 0, none⟩) 1 1)).heap[b5]? = some (.cells #[.slice (some ⟨w.heap.size, 0, none⟩) 1 1] 23 (0, 0)) := by simpa using heap_set (i := 0) (.slice (some ⟨w.heap.size, 0, none⟩) 1 1) h5
  have K5 := Lib.hid k5
  have HB := Lib.hid (hR.bel.setCell (p := ⟨b5, 0, none⟩) hR.o5.1 (.slice (some ⟨w.heap.size, 0, none⟩) 1 1))
  have hBs : B ≤ w.heap.size := by have := hR.siz; have := hR.o5; omega
  clear h5 ho hR k5
  go_wp2
  apply hp
  · exact ⟨rfl, rfl⟩
  · exact ((bal (brf _) _).block b5 (lt_of_heap K5.out)).trans K5.out
  · refine RItems.lit (n := 1) (cap := 1) (by simpa using heap_new (w.setCell ⟨b5, 0, none⟩ (.slice (some ⟨w.heap.size, 0, none⟩) 1 1)) (.cells #[.int .u8 10, .int .i64 0, .string ⟨#[]⟩] 58)) rfl (by decide) (by decide) hBs (fun i z hi => ?_)
    match i, hi with
    | 0, hi => simp at hi; subst hi; exact ⟨rfl, rfl, rfl⟩
  · exact HB.out.alloc (by simpa using hBs) _
end Go.Proofs.YteikncnldbdfmaaGreatDoor
