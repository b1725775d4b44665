/- The reference Read: its parts put together. -/
import Derived.Test.YteikncnldbdfmaaGreatDoorRdF
namespace Go.Proofs.YteikncnldbdfmaaGreatDoor
open Go.RowKit Go.Mh
theorem tneT : 115 ≠ 58 := by decide
theorem RS.keepT {B B1 b5 b8 b11 : Nat} {wt w w' : World} {d : List It} {kind : Int} {inn : Bool} (h : RS B B1 b5 b8 b11 wt w d kind inn) {g : Nat} (hg : B1 ≤ g) {xs : Array Value} (hT : w.heap[g]? = some (.cells xs 115 (0, 0))) (hk : Keeps b5 b8 b11 w w') : w'.heap[g]? = some (.cells xs 115 (0, 0)) :=
  (hk g xs _ _ hT tneT (by have := h.o5; omega) (by have := h.o8; omega) (by have := h.o11; omega)).trans hT
theorem cell3 (f : UInt8 → It) (tx : Bs) (j : Nat) (c : UInt8) (h : tx[j]? = some c) (d : List It) : d ++ (tx.take (j + 1)).map f = (d ++ (tx.take j).map f) ++ [f c] := by
  rw [List.take_add_one, h]; simp
theorem rd_text (Q : Exit → Act → World → Prop) (w : World) {b5 b8 b11 : Nat} {fr : Array Value} {c0 c1 c2 c3 c10 c13 c15 c16 c17 c18 c19 c20 c21 c22 c23 c24 mp tv nv iv : Value} {B B1 : Nat} {wt : World} {d : List It} {kind : Int} {inn : Bool} (bo sl : Int) (lk : Bs) (g : Nat) (tk : Int) (nm tx hr : Bs) (hf : Frm 183 [c0, c1, c2, c3, mp, ptr b5, .int .i64 bo, .int .i64 sl, ptr b8, str lk, c10, ptr b11, .func (.func 76) #[] #[ptr b11, ptr b5, ptr b8], c13, ptr g, c15, c16, c17, c18, c19, c20, c21, c22, c23, c24, tv, nv, iv] fr) (hR : RS B B1 b5 b8 b11 wt w d kind inn) (hT : w.heap[g]? = some (.cells #[.int .i64 tk, str nm, str tx, str hr] 115 (0, 0))) (hg : B1 ≤ g) (hd : d.length ≤ 80) (htx : tx.length ≤ 20000)
    (hp : ∀ (fr' : Array Value) (w' : World) (d17 d18 d19 : Value), Frm 183 [c0, c1, c2, c3, mp, ptr b5, .int .i64 bo, .int .i64 sl, ptr b8, str lk, c10, ptr b11, .func (.func 76) #[] #[ptr b11, ptr b5, ptr b8], c13, ptr g, c15, c16, d17, d18, d19, c20, c21, c22, c23, c24, tv, nv, iv] fr' → RS B B1 b5 b8 b11 wt w' (d ++ tx.map (fun c => (⟨chr1 c, (if 0 < bo then (1 : Int) else 0) + (if 0 < sl then 2 else 0), lk⟩ : It))) kind inn → Q .normal ⟨fr', []⟩ w') :
    Code.wp Tryz.prog (readC [1, 1, 1, 1, 1, 1, 0, 1, 2, 2, 1, 1, 0, 2, 1, 1, 0, 2, 1, 4, 1, 3]) Q ⟨fr, []⟩ w := by
  refine wp_seq (x := (readC [1, 1, 1, 1, 1, 1, 0, 1, 2, 2, 1, 1, 0, 2, 1, 1, 0, 2, 1, 4, 1, 3, 0])) (y := (readC [1, 1, 1, 1, 1, 1, 0, 1, 2, 2, 1, 1, 0, 2, 1, 1, 0, 2, 1, 4, 1, 3, 1])) ?_
  refine rd14 _ _ g tk nm tx hr (hf.more 30 (by simp)) hT ?_
  intro f1 hf1
  show Code.wp _ (readC [1, 1, 1, 1, 1, 1, 0, 1, 2, 2, 1, 1, 0, 2, 1, 1, 0, 2, 1, 4, 1, 3, 1]) _ _ _
  refine wp_block (c := (readC [1, 1, 1, 1, 1, 1, 0, 1, 2, 2, 1, 1, 0, 2, 1, 1, 0, 2, 1, 4, 1, 3, 1, 2])) ?_
  have hf0 := hf1
  refine wp_loop (c := (readC [1, 1, 1, 1, 1, 1, 0, 1, 2, 2, 1, 1, 0, 2, 1, 1, 0, 2, 1, 4, 1, 3, 1, 2, 2])) (fun a w' => a.defers = [] ∧ ∃ (j : Nat) (d17 d18 d19 : Value) (s : List Value), s = ([c0, c1, c2, c3, mp, ptr b5, .int .i64 bo, .int .i64 sl, ptr b8, str lk, c10, ptr b11, .func (.func 76) #[] #[ptr b11, ptr b5, ptr b8], c13, ptr g, c15, c16, d17, d18, d19, c20, c21, c22, c23, c24, tv, nv, iv] ++ (List.range 26).map fun k => fr.getD (28 + k) undef) ++ [.pointer (some ⟨g, 2, none⟩), str tx, .int .i64 (tx.length : Int), .int .i64 (j : Int)] ∧ j ≤ tx.length ∧ Frm 183 s a.tmps ∧ RS B B1 b5 b8 b11 wt w' (d ++ (tx.take j).map (fun c => (⟨chr1 c, (if 0 < bo then (1 : Int) else 0) + (if 0 < sl then 2 else 0), lk⟩ : It))) kind inn ∧ w'.heap[g]? = some (.cells #[.int .i64 tk, str nm, str tx, str hr] 115 (0, 0))) (fun a _ => tx.length - (intOf (a.tmps.getD 57 undef)).toNat) ⟨rfl, 0, c17, c18, c19, _, rfl, Nat.zero_le _, hf1, by simpa using hR, hT⟩ ?_
  rintro ⟨fa, df⟩ w' ⟨hdf, j, d17, d18, d19, s, hs, hj, hfa, hRw, hTw⟩
  obtain rfl : df = [] := hdf
  subst hs
  have hmk : ∀ (fx : Array Value) (n : Nat) {s : List Value}, Frm 183 s fx → s[57]? = some (.int .i64 n) → j < n → n ≤ tx.length → tx.length - (intOf (fx.getD 57 undef)).toNat < tx.length - (intOf (fa.getD 57 undef)).toNat := by
    intro fx n s hfx hs57 h1 h2
    rw [hfx.get hs57, hfa.get rfl]
    simp only [intOf]
    omega
  refine wp_seq (x := (readC [1, 1, 1, 1, 1, 1, 0, 1, 2, 2, 1, 1, 0, 2, 1, 1, 0, 2, 1, 4, 1, 3, 1, 2, 2, 0])) (y := (readC [1, 1, 1, 1, 1, 1, 0, 1, 2, 2, 1, 1, 0, 2, 1, 1, 0, 2, 1, 4, 1, 3, 1, 2, 2, 1])) ?_
  refine rd15 _ _ j tx.length hfa ?_
  intro f2 hf2 ht2
  show Code.wp _ (readC [1, 1, 1, 1, 1, 1, 0, 1, 2, 2, 1, 1, 0, 2, 1, 1, 0, 2, 1, 4, 1, 3, 1, 2, 2, 1]) _ _ _
  refine wp_seq (x := (readC [1, 1, 1, 1, 1, 1, 0, 1, 2, 2, 1, 1, 0, 2, 1, 1, 0, 2, 1, 4, 1, 3, 1, 2, 2, 1, 0])) (y := (readC [1, 1, 1, 1, 1, 1, 0, 1, 2, 2, 1, 1, 0, 2, 1, 1, 0, 2, 1, 4, 1, 3, 1, 2, 2, 1, 1])) ?_
  by_cases hlt : j < tx.length
  · rw [decide_eq_true hlt] at ht2
    obtain ⟨c, hc⟩ : ∃ c, tx[j]? = some c := ⟨_, List.getElem?_eq_getElem hlt⟩
    refine wp_cond_true (x := (readC [1, 1, 1, 1, 1, 1, 0, 1, 2, 2, 1, 1, 0, 2, 1, 1, 0, 2, 1, 4, 1, 3, 1, 2, 2, 1, 0, 3])) (y := (readC [1, 1, 1, 1, 1, 1, 0, 1, 2, 2, 1, 1, 0, 2, 1, 1, 0, 2, 1, 4, 1, 3, 1, 2, 2, 1, 0, 4])) ht2 ?_
    refine wp_skip ?_
    show Code.wp _ (readC [1, 1, 1, 1, 1, 1, 0, 1, 2, 2, 1, 1, 0, 2, 1, 1, 0, 2, 1, 4, 1, 3, 1, 2, 2, 1, 1]) _ _ _
    refine wp_seq (x := (readC [1, 1, 1, 1, 1, 1, 0, 1, 2, 2, 1, 1, 0, 2, 1, 1, 0, 2, 1, 4, 1, 3, 1, 2, 2, 1, 1, 0])) (y := (readC [1, 1, 1, 1, 1, 1, 0, 1, 2, 2, 1, 1, 0, 2, 1, 1, 0, 2, 1, 4, 1, 3, 1, 2, 2, 1, 1, 1])) ?_
    refine wp_block (c := (readC [1, 1, 1, 1, 1, 1, 0, 1, 2, 2, 1, 1, 0, 2, 1, 1, 0, 2, 1, 4, 1, 3, 1, 2, 2, 1, 1, 0, 2])) ?_
    refine wp_seq (x := (readC [1, 1, 1, 1, 1, 1, 0, 1, 2, 2, 1, 1, 0, 2, 1, 1, 0, 2, 1, 4, 1, 3, 1, 2, 2, 1, 1, 0, 2, 0])) (y := (readC [1, 1, 1, 1, 1, 1, 0, 1, 2, 2, 1, 1, 0, 2, 1, 1, 0, 2, 1, 4, 1, 3, 1, 2, 2, 1, 1, 0, 2, 1])) ?_
    refine rd16 _ _ j hf2 ?_
    intro f3 hf3
    show Code.wp _ (readC [1, 1, 1, 1, 1, 1, 0, 1, 2, 2, 1, 1, 0, 2, 1, 1, 0, 2, 1, 4, 1, 3, 1, 2, 2, 1, 1, 0, 2, 1]) _ _ _
    refine wp_seq (x := (readC [1, 1, 1, 1, 1, 1, 0, 1, 2, 2, 1, 1, 0, 2, 1, 1, 0, 2, 1, 4, 1, 3, 1, 2, 2, 1, 1, 0, 2, 1, 0])) (y := (readC [1, 1, 1, 1, 1, 1, 0, 1, 2, 2, 1, 1, 0, 2, 1, 1, 0, 2, 1, 4, 1, 3, 1, 2, 2, 1, 1, 0, 2, 1, 1])) ?_
    refine rd17 _ _ g tk nm tx hr j c hf3 hTw hc ?_
    intro f4 hf4
    show Code.wp _ (readC [1, 1, 1, 1, 1, 1, 0, 1, 2, 2, 1, 1, 0, 2, 1, 1, 0, 2, 1, 4, 1, 3, 1, 2, 2, 1, 1, 0, 2, 1, 1]) _ _ _
    refine wp_seq (x := (readC [1, 1, 1, 1, 1, 1, 0, 1, 2, 2, 1, 1, 0, 2, 1, 1, 0, 2, 1, 4, 1, 3, 1, 2, 2, 1, 1, 0, 2, 1, 1, 0])) (y := (readC [1, 1, 1, 1, 1, 1, 0, 1, 2, 2, 1, 1, 0, 2, 1, 1, 0, 2, 1, 4, 1, 3, 1, 2, 2, 1, 1, 0, 2, 1, 1, 1])) ?_
    refine wp_seq (x := (readC [1, 1, 1, 1, 1, 1, 0, 1, 2, 2, 1, 1, 0, 2, 1, 1, 0, 2, 1, 4, 1, 3, 1, 2, 2, 1, 1, 0, 2, 1, 1, 0, 0])) (y := (readC [1, 1, 1, 1, 1, 1, 0, 1, 2, 2, 1, 1, 0, 2, 1, 1, 0, 2, 1, 4, 1, 3, 1, 2, 2, 1, 1, 0, 2, 1, 1, 0, 1])) ?_
    refine rd18 _ _ c hf4 ?_
    intro f5 hf5 ht5
    show Code.wp _ (readC [1, 1, 1, 1, 1, 1, 0, 1, 2, 2, 1, 1, 0, 2, 1, 1, 0, 2, 1, 4, 1, 3, 1, 2, 2, 1, 1, 0, 2, 1, 1, 0, 1]) _ _ _
    have hod : ∀ (Q1 : Exit → Act → World → Prop) (fx : Array Value) (k1 : UInt8), (isBl c → k1 = 32) → (¬ isBl c → k1 = c) → Frm 183 (([c0, c1, c2, c3, mp, ptr b5, .int .i64 bo, .int .i64 sl, ptr b8, str lk, c10, ptr b11, .func (.func 76) #[] #[ptr b11, ptr b5, ptr b8], c13, ptr g, c15, c16, .int .i64 (j : Int), .int .u8 k1.toNat, d19, c20, c21, c22, c23, c24, tv, nv, iv] ++ (List.range 26).map fun k => fr.getD (28 + k) undef) ++ [.pointer (some ⟨g, 2, none⟩), str tx, .int .i64 (tx.length : Int), .int .i64 (j : Int)]) fx → (∀ fy wy d18 d19, Frm 183 (([c0, c1, c2, c3, mp, ptr b5, .int .i64 bo, .int .i64 sl, ptr b8, str lk, c10, ptr b11, .func (.func 76) #[] #[ptr b11, ptr b5, ptr b8], c13, ptr g, c15, c16, .int .i64 (j : Int), d18, d19, c20, c21, c22, c23, c24, tv, nv, iv] ++ (List.range 26).map fun k => fr.getD (28 + k) undef) ++ [.pointer (some ⟨g, 2, none⟩), str tx, .int .i64 (tx.length : Int), .int .i64 (j : Int)]) fy → RS B B1 b5 b8 b11 wt wy ((d ++ (tx.take j).map (fun c => (⟨chr1 c, (if 0 < bo then (1 : Int) else 0) + (if 0 < sl then 2 else 0), lk⟩ : It))) ++ [(fun c => (⟨chr1 c, (if 0 < bo then (1 : Int) else 0) + (if 0 < sl then 2 else 0), lk⟩ : It)) c]) kind inn → Keeps b5 b8 b11 w' wy → Q1 .normal ⟨fy, []⟩ wy) → Code.wp Tryz.prog (readC [1, 1, 1, 1, 1, 1, 0, 1, 2, 2, 1, 1, 0, 2, 1, 1, 0, 2, 1, 4, 1, 3, 1, 2, 2, 1, 1, 0, 2, 1, 1, 1]) Q1 ⟨fx, []⟩ w' := by
      intro Q1 fx k1 h32 hcc hfx hp1
      refine wp_seq (x := (readC [1, 1, 1, 1, 1, 1, 0, 1, 2, 2, 1, 1, 0, 2, 1, 1, 0, 2, 1, 4, 1, 3, 1, 2, 2, 1, 1, 0, 2, 1, 1, 1, 0])) (y := (readC [1, 1, 1, 1, 1, 1, 0, 1, 2, 2, 1, 1, 0, 2, 1, 1, 0, 2, 1, 4, 1, 3, 1, 2, 2, 1, 1, 0, 2, 1, 1, 1, 1])) ?_
      refine wp_seq (x := (readC [1, 1, 1, 1, 1, 1, 0, 1, 2, 2, 1, 1, 0, 2, 1, 1, 0, 2, 1, 4, 1, 3, 1, 2, 2, 1, 1, 0, 2, 1, 1, 1, 0, 0])) (y := (readC [1, 1, 1, 1, 1, 1, 0, 1, 2, 2, 1, 1, 0, 2, 1, 1, 0, 2, 1, 4, 1, 3, 1, 2, 2, 1, 1, 0, 2, 1, 1, 1, 0, 1])) ?_
      refine rd20 _ _ k1 hfx ?_
      intro f6 hf6 ht6
      show Code.wp _ (readC [1, 1, 1, 1, 1, 1, 0, 1, 2, 2, 1, 1, 0, 2, 1, 1, 0, 2, 1, 4, 1, 3, 1, 2, 2, 1, 1, 0, 2, 1, 1, 1, 0, 1]) _ _ _
      have hchr : (if isOd k1 then (63 : UInt8) else k1) = chr1 c := by
        unfold chr1
        by_cases hb : isBl c
        · rw [h32 hb, if_neg (show ¬ isOd 32 by decide), if_pos (show c = 9 ∨ c = 10 ∨ c = 13 ∨ c = 12 from hb)]
        · rw [hcc hb, if_neg (show ¬ (c = 9 ∨ c = 10 ∨ c = 13 ∨ c = 12) from hb)]
          rfl
      have hit : ∀ (Q2 : Exit → Act → World → Prop) (fy : Array Value) (k2 : UInt8), k2 = chr1 c → Frm 183 (([c0, c1, c2, c3, mp, ptr b5, .int .i64 bo, .int .i64 sl, ptr b8, str lk, c10, ptr b11, .func (.func 76) #[] #[ptr b11, ptr b5, ptr b8], c13, ptr g, c15, c16, .int .i64 (j : Int), .int .u8 k2.toNat, d19, c20, c21, c22, c23, c24, tv, nv, iv] ++ (List.range 26).map fun k => fr.getD (28 + k) undef) ++ [.pointer (some ⟨g, 2, none⟩), str tx, .int .i64 (tx.length : Int), .int .i64 (j : Int)]) fy → (∀ fz wz d18 d19, Frm 183 (([c0, c1, c2, c3, mp, ptr b5, .int .i64 bo, .int .i64 sl, ptr b8, str lk, c10, ptr b11, .func (.func 76) #[] #[ptr b11, ptr b5, ptr b8], c13, ptr g, c15, c16, .int .i64 (j : Int), d18, d19, c20, c21, c22, c23, c24, tv, nv, iv] ++ (List.range 26).map fun k => fr.getD (28 + k) undef) ++ [.pointer (some ⟨g, 2, none⟩), str tx, .int .i64 (tx.length : Int), .int .i64 (j : Int)]) fz → RS B B1 b5 b8 b11 wt wz ((d ++ (tx.take j).map (fun c => (⟨chr1 c, (if 0 < bo then (1 : Int) else 0) + (if 0 < sl then 2 else 0), lk⟩ : It))) ++ [(fun c => (⟨chr1 c, (if 0 < bo then (1 : Int) else 0) + (if 0 < sl then 2 else 0), lk⟩ : It)) c]) kind inn → Keeps b5 b8 b11 w' wz → Q2 .normal ⟨fz, []⟩ wz) → Code.wp Tryz.prog (readC [1, 1, 1, 1, 1, 1, 0, 1, 2, 2, 1, 1, 0, 2, 1, 1, 0, 2, 1, 4, 1, 3, 1, 2, 2, 1, 1, 0, 2, 1, 1, 1, 1]) Q2 ⟨fy, []⟩ w' := by
        rintro Q2 fy k2 rfl hfy hp2
        refine wp_seq (x := (readC [1, 1, 1, 1, 1, 1, 0, 1, 2, 2, 1, 1, 0, 2, 1, 1, 0, 2, 1, 4, 1, 3, 1, 2, 2, 1, 1, 0, 2, 1, 1, 1, 1, 0])) (y := (readC [1, 1, 1, 1, 1, 1, 0, 1, 2, 2, 1, 1, 0, 2, 1, 1, 0, 2, 1, 4, 1, 3, 1, 2, 2, 1, 1, 0, 2, 1, 1, 1, 1, 1])) ?_
        refine rd22 _ _ (chr1 c) lk hfy ?_
        intro f7 hf7
        show Code.wp _ (readC [1, 1, 1, 1, 1, 1, 0, 1, 2, 2, 1, 1, 0, 2, 1, 1, 0, 2, 1, 4, 1, 3, 1, 2, 2, 1, 1, 0, 2, 1, 1, 1, 1, 1]) _ _ _
        refine wp_seq (x := (readC [1, 1, 1, 1, 1, 1, 0, 1, 2, 2, 1, 1, 0, 2, 1, 1, 0, 2, 1, 4, 1, 3, 1, 2, 2, 1, 1, 0, 2, 1, 1, 1, 1, 1, 0])) (y := (readC [1, 1, 1, 1, 1, 1, 0, 1, 2, 2, 1, 1, 0, 2, 1, 1, 0, 2, 1, 4, 1, 3, 1, 2, 2, 1, 1, 0, 2, 1, 1, 1, 1, 1, 1])) ?_
        refine wp_seq (x := (readC [1, 1, 1, 1, 1, 1, 0, 1, 2, 2, 1, 1, 0, 2, 1, 1, 0, 2, 1, 4, 1, 3, 1, 2, 2, 1, 1, 0, 2, 1, 1, 1, 1, 1, 0, 0])) (y := (readC [1, 1, 1, 1, 1, 1, 0, 1, 2, 2, 1, 1, 0, 2, 1, 1, 0, 2, 1, 4, 1, 3, 1, 2, 2, 1, 1, 0, 2, 1, 1, 1, 1, 1, 0, 1])) ?_
        have hI0 := heap_new w' (.cells #[.int .u8 (chr1 c).toNat, .int .i64 0, str lk] 58)
        have hB0 := bal (brf w') (.cells #[.int .u8 (chr1 c).toNat, .int .i64 0, str lk] 58)
        refine rd23 _ _ bo hf7 ?_
        intro f8 hf8 ht8
        show Code.wp _ (readC [1, 1, 1, 1, 1, 1, 0, 1, 2, 2, 1, 1, 0, 2, 1, 1, 0, 2, 1, 4, 1, 3, 1, 2, 2, 1, 1, 0, 2, 1, 1, 1, 1, 1, 0, 1]) _ _ _
        have hsl : ∀ (Q3 : Exit → Act → World → Prop) (fz : Array Value) (wz : World) (m : Int), m = (if 0 < bo then (1 : Int) else 0) → Frm 183 (([c0, c1, c2, c3, mp, ptr b5, .int .i64 bo, .int .i64 sl, ptr b8, str lk, c10, ptr b11, .func (.func 76) #[] #[ptr b11, ptr b5, ptr b8], c13, ptr g, c15, c16, .int .i64 (j : Int), .int .u8 (chr1 c).toNat, ptr w'.heap.size, c20, c21, c22, c23, c24, tv, nv, iv] ++ (List.range 26).map fun k => fr.getD (28 + k) undef) ++ [.pointer (some ⟨g, 2, none⟩), str tx, .int .i64 (tx.length : Int), .int .i64 (j : Int)]) fz → wz.heap[w'.heap.size]? = some (.cells #[.int .u8 (chr1 c).toNat, .int .i64 m, str lk] 58 (0, 0)) → Below w'.heap.size w' wz → (∀ fz wz d18 d19, Frm 183 (([c0, c1, c2, c3, mp, ptr b5, .int .i64 bo, .int .i64 sl, ptr b8, str lk, c10, ptr b11, .func (.func 76) #[] #[ptr b11, ptr b5, ptr b8], c13, ptr g, c15, c16, .int .i64 (j : Int), d18, d19, c20, c21, c22, c23, c24, tv, nv, iv] ++ (List.range 26).map fun k => fr.getD (28 + k) undef) ++ [.pointer (some ⟨g, 2, none⟩), str tx, .int .i64 (tx.length : Int), .int .i64 (j : Int)]) fz → RS B B1 b5 b8 b11 wt wz ((d ++ (tx.take j).map (fun c => (⟨chr1 c, (if 0 < bo then (1 : Int) else 0) + (if 0 < sl then 2 else 0), lk⟩ : It))) ++ [(fun c => (⟨chr1 c, (if 0 < bo then (1 : Int) else 0) + (if 0 < sl then 2 else 0), lk⟩ : It)) c]) kind inn → Keeps b5 b8 b11 w' wz → Q3 .normal ⟨fz, []⟩ wz) → Code.wp Tryz.prog (readC [1, 1, 1, 1, 1, 1, 0, 1, 2, 2, 1, 1, 0, 2, 1, 1, 0, 2, 1, 4, 1, 3, 1, 2, 2, 1, 1, 0, 2, 1, 1, 1, 1, 1, 1]) Q3 ⟨fz, []⟩ wz := by
          intro Q3 fz wz m hmm hfz hIz hBz hp3
          refine wp_seq (x := (readC [1, 1, 1, 1, 1, 1, 0, 1, 2, 2, 1, 1, 0, 2, 1, 1, 0, 2, 1, 4, 1, 3, 1, 2, 2, 1, 1, 0, 2, 1, 1, 1, 1, 1, 1, 0])) (y := (readC [1, 1, 1, 1, 1, 1, 0, 1, 2, 2, 1, 1, 0, 2, 1, 1, 0, 2, 1, 4, 1, 3, 1, 2, 2, 1, 1, 0, 2, 1, 1, 1, 1, 1, 1, 1])) ?_
          refine wp_seq (x := (readC [1, 1, 1, 1, 1, 1, 0, 1, 2, 2, 1, 1, 0, 2, 1, 1, 0, 2, 1, 4, 1, 3, 1, 2, 2, 1, 1, 0, 2, 1, 1, 1, 1, 1, 1, 0, 0])) (y := (readC [1, 1, 1, 1, 1, 1, 0, 1, 2, 2, 1, 1, 0, 2, 1, 1, 0, 2, 1, 4, 1, 3, 1, 2, 2, 1, 1, 0, 2, 1, 1, 1, 1, 1, 1, 0, 1])) ?_
          refine rd25 _ _ sl hfz ?_
          intro f9 hf9 ht9
          show Code.wp _ (readC [1, 1, 1, 1, 1, 1, 0, 1, 2, 2, 1, 1, 0, 2, 1, 1, 0, 2, 1, 4, 1, 3, 1, 2, 2, 1, 1, 0, 2, 1, 1, 1, 1, 1, 1, 0, 1]) _ _ _
          have hap : ∀ (Q4 : Exit → Act → World → Prop) (fz : Array Value) (wy : World) (m2 : Int), m2 = (if 0 < bo then (1 : Int) else 0) + (if 0 < sl then 2 else 0) → Frm 183 (([c0, c1, c2, c3, mp, ptr b5, .int .i64 bo, .int .i64 sl, ptr b8, str lk, c10, ptr b11, .func (.func 76) #[] #[ptr b11, ptr b5, ptr b8], c13, ptr g, c15, c16, .int .i64 (j : Int), .int .u8 (chr1 c).toNat, ptr w'.heap.size, c20, c21, c22, c23, c24, tv, nv, iv] ++ (List.range 26).map fun k => fr.getD (28 + k) undef) ++ [.pointer (some ⟨g, 2, none⟩), str tx, .int .i64 (tx.length : Int), .int .i64 (j : Int)]) fz → wy.heap[w'.heap.size]? = some (.cells #[.int .u8 (chr1 c).toNat, .int .i64 m2, str lk] 58 (0, 0)) → Below w'.heap.size w' wy → (∀ fz wz d18 d19, Frm 183 (([c0, c1, c2, c3, mp, ptr b5, .int .i64 bo, .int .i64 sl, ptr b8, str lk, c10, ptr b11, .func (.func 76) #[] #[ptr b11, ptr b5, ptr b8], c13, ptr g, c15, c16, .int .i64 (j : Int), d18, d19, c20, c21, c22, c23, c24, tv, nv, iv] ++ (List.range 26).map fun k => fr.getD (28 + k) undef) ++ [.pointer (some ⟨g, 2, none⟩), str tx, .int .i64 (tx.length : Int), .int .i64 (j : Int)]) fz → RS B B1 b5 b8 b11 wt wz ((d ++ (tx.take j).map (fun c => (⟨chr1 c, (if 0 < bo then (1 : Int) else 0) + (if 0 < sl then 2 else 0), lk⟩ : It))) ++ [(fun c => (⟨chr1 c, (if 0 < bo then (1 : Int) else 0) + (if 0 < sl then 2 else 0), lk⟩ : It)) c]) kind inn → Keeps b5 b8 b11 w' wz → Q4 .normal ⟨fz, []⟩ wz) → Code.wp Tryz.prog (readC [1, 1, 1, 1, 1, 1, 0, 1, 2, 2, 1, 1, 0, 2, 1, 1, 0, 2, 1, 4, 1, 3, 1, 2, 2, 1, 1, 0, 2, 1, 1, 1, 1, 1, 1, 1]) Q4 ⟨fz, []⟩ wy := by
            rintro Q4 fz wy m2 rfl hfz hIy hBy hp4
            refine rd27 _ _ w'.heap.size (chr1 c) _ lk hfz (hRw.to hBy) hIy (by simp; omega) ?_
            intro f10 w10 hf10 hR10 hK10
            exact hp4 f10 w10 _ _ hf10 hR10 ((Keeps.below hBy).trans hK10)
          by_cases hs0 : 0 < sl
          · rw [decide_eq_true hs0] at ht9
            refine wp_cond_true (x := (readC [1, 1, 1, 1, 1, 1, 0, 1, 2, 2, 1, 1, 0, 2, 1, 1, 0, 2, 1, 4, 1, 3, 1, 2, 2, 1, 1, 0, 2, 1, 1, 1, 1, 1, 1, 0, 1, 3])) (y := (readC [1, 1, 1, 1, 1, 1, 0, 1, 2, 2, 1, 1, 0, 2, 1, 1, 0, 2, 1, 4, 1, 3, 1, 2, 2, 1, 1, 0, 2, 1, 1, 1, 1, 1, 1, 0, 1, 4])) ht9 ?_
            refine rd26 _ _ w'.heap.size (chr1 c) m lk hf9 hIz (by rw [hmm]; split <;> omega) ?_
            intro f10 w10 hf10 hI10 hB10
            show Code.wp _ (readC [1, 1, 1, 1, 1, 1, 0, 1, 2, 2, 1, 1, 0, 2, 1, 1, 0, 2, 1, 4, 1, 3, 1, 2, 2, 1, 1, 0, 2, 1, 1, 1, 1, 1, 1, 1]) _ _ _
            exact hap _ f10 w10 _ (by rw [hmm, if_pos hs0]) hf10 hI10 (hBz.trans hB10) hp3
          · rw [decide_eq_false hs0] at ht9
            refine wp_cond_false (x := (readC [1, 1, 1, 1, 1, 1, 0, 1, 2, 2, 1, 1, 0, 2, 1, 1, 0, 2, 1, 4, 1, 3, 1, 2, 2, 1, 1, 0, 2, 1, 1, 1, 1, 1, 1, 0, 1, 3])) (y := (readC [1, 1, 1, 1, 1, 1, 0, 1, 2, 2, 1, 1, 0, 2, 1, 1, 0, 2, 1, 4, 1, 3, 1, 2, 2, 1, 1, 0, 2, 1, 1, 1, 1, 1, 1, 0, 1, 4])) ht9 ?_
            refine wp_skip ?_
            show Code.wp _ (readC [1, 1, 1, 1, 1, 1, 0, 1, 2, 2, 1, 1, 0, 2, 1, 1, 0, 2, 1, 4, 1, 3, 1, 2, 2, 1, 1, 0, 2, 1, 1, 1, 1, 1, 1, 1]) _ _ _
            exact hap _ f9 wz _ (by rw [hmm, if_neg hs0]; omega) hf9 hIz hBz hp3
        by_cases hb0 : 0 < bo
        · rw [decide_eq_true hb0] at ht8
          refine wp_cond_true (x := (readC [1, 1, 1, 1, 1, 1, 0, 1, 2, 2, 1, 1, 0, 2, 1, 1, 0, 2, 1, 4, 1, 3, 1, 2, 2, 1, 1, 0, 2, 1, 1, 1, 1, 1, 0, 1, 3])) (y := (readC [1, 1, 1, 1, 1, 1, 0, 1, 2, 2, 1, 1, 0, 2, 1, 1, 0, 2, 1, 4, 1, 3, 1, 2, 2, 1, 1, 0, 2, 1, 1, 1, 1, 1, 0, 1, 4])) ht8 ?_
          refine rd24 _ _ w'.heap.size (chr1 c) 0 lk hf8 hI0 (by omega) ?_
          intro f9 w9 hf9 hI9 hB9
          show Code.wp _ (readC [1, 1, 1, 1, 1, 1, 0, 1, 2, 2, 1, 1, 0, 2, 1, 1, 0, 2, 1, 4, 1, 3, 1, 2, 2, 1, 1, 0, 2, 1, 1, 1, 1, 1, 1]) _ _ _
          exact hsl _ f9 w9 _ (by rw [if_pos hb0]; rfl) hf9 hI9 (hB0.trans hB9) hp2
        · rw [decide_eq_false hb0] at ht8
          refine wp_cond_false (x := (readC [1, 1, 1, 1, 1, 1, 0, 1, 2, 2, 1, 1, 0, 2, 1, 1, 0, 2, 1, 4, 1, 3, 1, 2, 2, 1, 1, 0, 2, 1, 1, 1, 1, 1, 0, 1, 3])) (y := (readC [1, 1, 1, 1, 1, 1, 0, 1, 2, 2, 1, 1, 0, 2, 1, 1, 0, 2, 1, 4, 1, 3, 1, 2, 2, 1, 1, 0, 2, 1, 1, 1, 1, 1, 0, 1, 4])) ht8 ?_
          refine wp_skip ?_
          show Code.wp _ (readC [1, 1, 1, 1, 1, 1, 0, 1, 2, 2, 1, 1, 0, 2, 1, 1, 0, 2, 1, 4, 1, 3, 1, 2, 2, 1, 1, 0, 2, 1, 1, 1, 1, 1, 1]) _ _ _
          exact hsl _ f8 _ 0 (by rw [if_neg hb0]) hf8 hI0 hB0 hp2
      by_cases hod : isOd k1
      · rw [decide_eq_true hod] at ht6
        rw [if_pos hod] at hchr
        refine wp_cond_true (x := (readC [1, 1, 1, 1, 1, 1, 0, 1, 2, 2, 1, 1, 0, 2, 1, 1, 0, 2, 1, 4, 1, 3, 1, 2, 2, 1, 1, 0, 2, 1, 1, 1, 0, 1, 3])) (y := (readC [1, 1, 1, 1, 1, 1, 0, 1, 2, 2, 1, 1, 0, 2, 1, 1, 0, 2, 1, 4, 1, 3, 1, 2, 2, 1, 1, 0, 2, 1, 1, 1, 0, 1, 4])) ht6 ?_
        refine rd21 _ _ hf6 ?_
        intro f7 hf7
        show Code.wp _ (readC [1, 1, 1, 1, 1, 1, 0, 1, 2, 2, 1, 1, 0, 2, 1, 1, 0, 2, 1, 4, 1, 3, 1, 2, 2, 1, 1, 0, 2, 1, 1, 1, 1]) _ _ _
        exact hit _ f7 63 hchr hf7 hp1
      · rw [decide_eq_false hod] at ht6
        rw [if_neg hod] at hchr
        refine wp_cond_false (x := (readC [1, 1, 1, 1, 1, 1, 0, 1, 2, 2, 1, 1, 0, 2, 1, 1, 0, 2, 1, 4, 1, 3, 1, 2, 2, 1, 1, 0, 2, 1, 1, 1, 0, 1, 3])) (y := (readC [1, 1, 1, 1, 1, 1, 0, 1, 2, 2, 1, 1, 0, 2, 1, 1, 0, 2, 1, 4, 1, 3, 1, 2, 2, 1, 1, 0, 2, 1, 1, 1, 0, 1, 4])) ht6 ?_
        refine wp_skip ?_
        show Code.wp _ (readC [1, 1, 1, 1, 1, 1, 0, 1, 2, 2, 1, 1, 0, 2, 1, 1, 0, 2, 1, 4, 1, 3, 1, 2, 2, 1, 1, 0, 2, 1, 1, 1, 1]) _ _ _
        exact hit _ f6 k1 hchr hf6 hp1
    by_cases hbl : isBl c
    · rw [decide_eq_true hbl] at ht5
      refine wp_cond_true (x := (readC [1, 1, 1, 1, 1, 1, 0, 1, 2, 2, 1, 1, 0, 2, 1, 1, 0, 2, 1, 4, 1, 3, 1, 2, 2, 1, 1, 0, 2, 1, 1, 0, 1, 3])) (y := (readC [1, 1, 1, 1, 1, 1, 0, 1, 2, 2, 1, 1, 0, 2, 1, 1, 0, 2, 1, 4, 1, 3, 1, 2, 2, 1, 1, 0, 2, 1, 1, 0, 1, 4])) ht5 ?_
      refine rd19 _ _ hf5 ?_
      intro f6 hf6
      show Code.wp _ (readC [1, 1, 1, 1, 1, 1, 0, 1, 2, 2, 1, 1, 0, 2, 1, 1, 0, 2, 1, 4, 1, 3, 1, 2, 2, 1, 1, 0, 2, 1, 1, 1]) _ _ _
      refine hod _ f6 32 (fun _ => rfl) (fun h => absurd hbl h) hf6 ?_
      intro fy wy d18' d19' hfy hRy hKy
      refine rd28 _ _ j hfy (by omega) ?_
      intro fz hfz
      exact ⟨⟨rfl, j + 1, _, d18', d19', _, rfl, hlt, hfz, by rw [cell3 _ tx j c hc]; exact hRy, hRw.keepT hg hTw hKy⟩, hmk fz (j + 1) hfz rfl (by omega) hlt⟩
    · rw [decide_eq_false hbl] at ht5
      refine wp_cond_false (x := (readC [1, 1, 1, 1, 1, 1, 0, 1, 2, 2, 1, 1, 0, 2, 1, 1, 0, 2, 1, 4, 1, 3, 1, 2, 2, 1, 1, 0, 2, 1, 1, 0, 1, 3])) (y := (readC [1, 1, 1, 1, 1, 1, 0, 1, 2, 2, 1, 1, 0, 2, 1, 1, 0, 2, 1, 4, 1, 3, 1, 2, 2, 1, 1, 0, 2, 1, 1, 0, 1, 4])) ht5 ?_
      refine wp_skip ?_
      show Code.wp _ (readC [1, 1, 1, 1, 1, 1, 0, 1, 2, 2, 1, 1, 0, 2, 1, 1, 0, 2, 1, 4, 1, 3, 1, 2, 2, 1, 1, 0, 2, 1, 1, 1]) _ _ _
      refine hod _ f5 c (fun h => absurd h hbl) (fun _ => rfl) hf5 ?_
      intro fy wy d18' d19' hfy hRy hKy
      refine rd28 _ _ j hfy (by omega) ?_
      intro fz hfz
      exact ⟨⟨rfl, j + 1, _, d18', d19', _, rfl, hlt, hfz, by rw [cell3 _ tx j c hc]; exact hRy, hRw.keepT hg hTw hKy⟩, hmk fz (j + 1) hfz rfl (by omega) hlt⟩
  · rw [decide_eq_false hlt] at ht2
    refine wp_cond_false (x := (readC [1, 1, 1, 1, 1, 1, 0, 1, 2, 2, 1, 1, 0, 2, 1, 1, 0, 2, 1, 4, 1, 3, 1, 2, 2, 1, 0, 3])) (y := (readC [1, 1, 1, 1, 1, 1, 0, 1, 2, 2, 1, 1, 0, 2, 1, 1, 0, 2, 1, 4, 1, 3, 1, 2, 2, 1, 0, 4])) ht2 ?_
    refine wp_exit ?_
    obtain rfl : j = tx.length := by omega
    rw [List.take_length] at hRw
    exact hp f2 w' _ _ _ (hf2.less 28 (by simp)) hRw
theorem rd_tok (Q : Exit → Act → World → Prop) (w : World) {b5 b8 b11 : Nat} {fr : Array Value} {c0 c1 c2 c3 c13 c17 c18 c19 c20 c21 c22 c23 c24 mp tv nv iv : Value} {B B1 : Nat} {wt : World} (k : Dk) (g : Nat) (tk : Int) (nm tx hr : Bs) (hf : Frm 183 [c0, c1, c2, c3, mp, ptr b5, .int .i64 k.bold, .int .i64 k.slant, ptr b8, str k.link, str k.gone, ptr b11, .func (.func 76) #[] #[ptr b11, ptr b5, ptr b8], c13, ptr g, .int .i64 ((blockOf nm).getD 0), .bool (blockOf nm).isSome, c17, c18, c19, c20, c21, c22, c23, c24, tv, nv, iv] fr) (hR : RS B B1 b5 b8 b11 wt w k.d k.kind k.inn) (hT : w.heap[g]? = some (.cells #[.int .i64 tk, str nm, str tx, str hr] 115 (0, 0))) (hg : B1 ≤ g) (hm : ∃ m, w.cell? ⟨2, 0, none⟩ = some (.int .i64 m)) (htab : Tab w) (hk1 : 1 ≤ tk ∧ tk ≤ 4) (hd : k.d.length ≤ 80) (htx : tx.length ≤ 20000) (hhr : hr.length ≤ 20000) (hfo : Fo k) (hbo : 0 ≤ k.bold ∧ k.bold ≤ 1000000) (hsl : 0 ≤ k.slant ∧ k.slant ≤ 1000000)
    (hQ : ∀ x (t t' : Array Value) (df : List Deferred) w, Q (.panic x) ⟨t, df⟩ w → Q (.panic x) ⟨t', df⟩ w)
    (hp : ∀ (fr' : Array Value) (w' : World) (K2 : Dk) (d15 d16 d17 d18 d19 d20 : Value), stepD k ⟨tk, nm, tx, hr⟩ = K2 → Frm 183 [c0, c1, c2, c3, mp, ptr b5, .int .i64 K2.bold, .int .i64 K2.slant, ptr b8, str K2.link, str K2.gone, ptr b11, .func (.func 76) #[] #[ptr b11, ptr b5, ptr b8], c13, ptr g, d15, d16, d17, d18, d19, d20, c21, c22, c23, c24, tv, nv, iv] fr' → RS B B1 b5 b8 b11 wt w' K2.d K2.kind K2.inn → Q .normal ⟨fr', []⟩ w') :
    Code.wp Tryz.prog (readC [1, 1, 1, 1, 1, 1, 0, 1, 2, 2, 1, 1, 0, 2, 1, 1, 0]) Q ⟨fr, []⟩ w := by
  refine wp_block (c := (readC [1, 1, 1, 1, 1, 1, 0, 1, 2, 2, 1, 1, 0, 2, 1, 1, 0, 2])) ?_
  refine wp_seq (x := (readC [1, 1, 1, 1, 1, 1, 0, 1, 2, 2, 1, 1, 0, 2, 1, 1, 0, 2, 0])) (y := (readC [1, 1, 1, 1, 1, 1, 0, 1, 2, 2, 1, 1, 0, 2, 1, 1, 0, 2, 1])) ?_
  refine rd10 _ _ k.gone hf ?_
  intro f1 hf1 ht1
  show Code.wp _ (readC [1, 1, 1, 1, 1, 1, 0, 1, 2, 2, 1, 1, 0, 2, 1, 1, 0, 2, 1]) _ _ _
  by_cases hgo : k.gone ≠ []
  · rw [decide_eq_true hgo] at ht1
    refine wp_cond_true (x := (readC [1, 1, 1, 1, 1, 1, 0, 1, 2, 2, 1, 1, 0, 2, 1, 1, 0, 2, 1, 3])) (y := (readC [1, 1, 1, 1, 1, 1, 0, 1, 2, 2, 1, 1, 0, 2, 1, 1, 0, 2, 1, 4])) ht1 ?_
    refine wp_seq (x := (readC [1, 1, 1, 1, 1, 1, 0, 1, 2, 2, 1, 1, 0, 2, 1, 1, 0, 2, 1, 3, 0])) (y := (readC [1, 1, 1, 1, 1, 1, 0, 1, 2, 2, 1, 1, 0, 2, 1, 1, 0, 2, 1, 3, 1])) ?_
    refine rd11 _ _ g tk nm tx hr k.gone hf1 hT ?_
    intro f2 hf2 ht2
    show Code.wp _ (readC [1, 1, 1, 1, 1, 1, 0, 1, 2, 2, 1, 1, 0, 2, 1, 1, 0, 2, 1, 3, 1]) _ _ _
    by_cases hc : tk = 3 ∧ nm = k.gone
    · rw [decide_eq_true hc] at ht2
      refine wp_cond_true (x := (readC [1, 1, 1, 1, 1, 1, 0, 1, 2, 2, 1, 1, 0, 2, 1, 1, 0, 2, 1, 3, 1, 3])) (y := (readC [1, 1, 1, 1, 1, 1, 0, 1, 2, 2, 1, 1, 0, 2, 1, 1, 0, 2, 1, 3, 1, 4])) ht2 ?_
      refine rd12 _ _ hf2 ?_
      intro f3 hf3
      exact hp f3 w { k with gone := [] } _ _ _ _ _ _ (by rw [step_gone hgo]; exact if_pos hc) hf3 hR
    · rw [decide_eq_false hc] at ht2
      refine wp_cond_false (x := (readC [1, 1, 1, 1, 1, 1, 0, 1, 2, 2, 1, 1, 0, 2, 1, 1, 0, 2, 1, 3, 1, 3])) (y := (readC [1, 1, 1, 1, 1, 1, 0, 1, 2, 2, 1, 1, 0, 2, 1, 1, 0, 2, 1, 3, 1, 4])) ht2 ?_
      refine wp_skip ?_
      exact hp f2 w k _ _ _ _ _ _ (by rw [step_gone hgo]; exact if_neg hc) hf2 hR
  · rw [decide_eq_false hgo] at ht1
    have hg0 : k.gone = [] := by simpa using hgo
    refine wp_cond_false (x := (readC [1, 1, 1, 1, 1, 1, 0, 1, 2, 2, 1, 1, 0, 2, 1, 1, 0, 2, 1, 3])) (y := (readC [1, 1, 1, 1, 1, 1, 0, 1, 2, 2, 1, 1, 0, 2, 1, 1, 0, 2, 1, 4])) ht1 ?_
    refine wp_seq (x := (readC [1, 1, 1, 1, 1, 1, 0, 1, 2, 2, 1, 1, 0, 2, 1, 1, 0, 2, 1, 4, 0])) (y := (readC [1, 1, 1, 1, 1, 1, 0, 1, 2, 2, 1, 1, 0, 2, 1, 1, 0, 2, 1, 4, 1])) ?_
    refine rd13 _ _ g tk nm tx hr hf1 hT ?_
    intro f2 hf2 ht2
    show Code.wp _ (readC [1, 1, 1, 1, 1, 1, 0, 1, 2, 2, 1, 1, 0, 2, 1, 1, 0, 2, 1, 4, 1]) _ _ _
    by_cases h1 : tk = 1
    · rw [decide_eq_true h1] at ht2
      refine wp_cond_true (x := (readC [1, 1, 1, 1, 1, 1, 0, 1, 2, 2, 1, 1, 0, 2, 1, 1, 0, 2, 1, 4, 1, 3])) (y := (readC [1, 1, 1, 1, 1, 1, 0, 1, 2, 2, 1, 1, 0, 2, 1, 1, 0, 2, 1, 4, 1, 4])) ht2 ?_
      show Code.wp _ (readC [1, 1, 1, 1, 1, 1, 0, 1, 2, 2, 1, 1, 0, 2, 1, 1, 0, 2, 1, 4, 1, 3]) _ _ _
      refine rd_text _ _ k.bold k.slant k.link g tk nm tx hr hf2 hR hT hg hd htx ?_
      intro f3 w3 d17 d18 d19 hf3 hR3
      exact hp f3 w3 (textD k tx) _ _ _ _ _ _ (step_text hg0 h1) hf3 hR3
    · rw [decide_eq_false h1] at ht2
      refine wp_cond_false (x := (readC [1, 1, 1, 1, 1, 1, 0, 1, 2, 2, 1, 1, 0, 2, 1, 1, 0, 2, 1, 4, 1, 3])) (y := (readC [1, 1, 1, 1, 1, 1, 0, 1, 2, 2, 1, 1, 0, 2, 1, 1, 0, 2, 1, 4, 1, 4])) ht2 ?_
      refine wp_seq (x := (readC [1, 1, 1, 1, 1, 1, 0, 1, 2, 2, 1, 1, 0, 2, 1, 1, 0, 2, 1, 4, 1, 4, 0])) (y := (readC [1, 1, 1, 1, 1, 1, 0, 1, 2, 2, 1, 1, 0, 2, 1, 1, 0, 2, 1, 4, 1, 4, 1])) ?_
      refine rd29 _ _ g tk nm tx hr hf2 hT ?_
      intro f3 hf3 ht3
      show Code.wp _ (readC [1, 1, 1, 1, 1, 1, 0, 1, 2, 2, 1, 1, 0, 2, 1, 1, 0, 2, 1, 4, 1, 4, 1]) _ _ _
      by_cases h4 : tk = 4
      · rw [decide_eq_true h4] at ht3
        refine wp_cond_true (x := (readC [1, 1, 1, 1, 1, 1, 0, 1, 2, 2, 1, 1, 0, 2, 1, 1, 0, 2, 1, 4, 1, 4, 1, 3])) (y := (readC [1, 1, 1, 1, 1, 1, 0, 1, 2, 2, 1, 1, 0, 2, 1, 1, 0, 2, 1, 4, 1, 4, 1, 4])) ht3 ?_
        refine wp_skip ?_
        exact hp f3 w k _ _ _ _ _ _ (step_other hg0 h4) hf3 hR
      · rw [decide_eq_false h4] at ht3
        have h23 : tk = 2 ∨ tk = 3 := by omega
        refine wp_cond_false (x := (readC [1, 1, 1, 1, 1, 1, 0, 1, 2, 2, 1, 1, 0, 2, 1, 1, 0, 2, 1, 4, 1, 4, 1, 3])) (y := (readC [1, 1, 1, 1, 1, 1, 0, 1, 2, 2, 1, 1, 0, 2, 1, 1, 0, 2, 1, 4, 1, 4, 1, 4])) ht3 ?_
        refine wp_seq (x := (readC [1, 1, 1, 1, 1, 1, 0, 1, 2, 2, 1, 1, 0, 2, 1, 1, 0, 2, 1, 4, 1, 4, 1, 4, 0])) (y := (readC [1, 1, 1, 1, 1, 1, 0, 1, 2, 2, 1, 1, 0, 2, 1, 1, 0, 2, 1, 4, 1, 4, 1, 4, 1])) ?_
        refine rd30 _ _ _ hf3 ?_
        intro f4 hf4 ht4
        show Code.wp _ (readC [1, 1, 1, 1, 1, 1, 0, 1, 2, 2, 1, 1, 0, 2, 1, 1, 0, 2, 1, 4, 1, 4, 1, 4, 1]) _ _ _
        cases hblk : blockOf nm with
        | some bv =>
          rw [hblk] at ht4 hf4
          refine wp_cond_true (x := (readC [1, 1, 1, 1, 1, 1, 0, 1, 2, 2, 1, 1, 0, 2, 1, 1, 0, 2, 1, 4, 1, 4, 1, 4, 1, 3])) (y := (readC [1, 1, 1, 1, 1, 1, 0, 1, 2, 2, 1, 1, 0, 2, 1, 1, 0, 2, 1, 4, 1, 4, 1, 4, 1, 4])) ht4 ?_
          refine wp_seq (x := (readC [1, 1, 1, 1, 1, 1, 0, 1, 2, 2, 1, 1, 0, 2, 1, 1, 0, 2, 1, 4, 1, 4, 1, 4, 1, 3, 0])) (y := (readC [1, 1, 1, 1, 1, 1, 0, 1, 2, 2, 1, 1, 0, 2, 1, 1, 0, 2, 1, 4, 1, 4, 1, 4, 1, 3, 1])) ?_
          refine rd31 _ _ k hf4 hR (by omega) hfo ?_
          intro f5 w5 hf5 hR5 hK5
          show Code.wp _ (readC [1, 1, 1, 1, 1, 1, 0, 1, 2, 2, 1, 1, 0, 2, 1, 1, 0, 2, 1, 4, 1, 4, 1, 4, 1, 3, 1]) _ _ _
          refine wp_seq (x := (readC [1, 1, 1, 1, 1, 1, 0, 1, 2, 2, 1, 1, 0, 2, 1, 1, 0, 2, 1, 4, 1, 4, 1, 4, 1, 3, 1, 0])) (y := (readC [1, 1, 1, 1, 1, 1, 0, 1, 2, 2, 1, 1, 0, 2, 1, 1, 0, 2, 1, 4, 1, 4, 1, 4, 1, 3, 1, 1])) ?_
          have hT5 := hR.keepT hg hT hK5
          refine rd32 _ _ g tk nm tx hr hf5 hT5 ?_
          intro f6 hf6 ht6
          show Code.wp _ (readC [1, 1, 1, 1, 1, 1, 0, 1, 2, 2, 1, 1, 0, 2, 1, 1, 0, 2, 1, 4, 1, 4, 1, 4, 1, 3, 1, 1]) _ _ _
          rcases h23 with h2 | h3
          · rw [decide_eq_true h2] at ht6
            refine wp_cond_true (x := (readC [1, 1, 1, 1, 1, 1, 0, 1, 2, 2, 1, 1, 0, 2, 1, 1, 0, 2, 1, 4, 1, 4, 1, 4, 1, 3, 1, 1, 3])) (y := (readC [1, 1, 1, 1, 1, 1, 0, 1, 2, 2, 1, 1, 0, 2, 1, 1, 0, 2, 1, 4, 1, 4, 1, 4, 1, 3, 1, 1, 4])) ht6 ?_
            refine rd33 _ _ bv hf6 hR5 ?_
            intro f7 w7 hf7 hR7
            obtain ⟨e1, e2, e3, e4⟩ := endD_keeps k
            rw [← e1, ← e2, ← e3, ← e4] at hf7
            exact hp f7 w7 { endD k with kind := bv, inn := true } _ _ _ _ _ _ (step_blk2 hg0 h2 hblk) hf7 hR7
          · rw [decide_eq_false (by omega)] at ht6
            refine wp_cond_false (x := (readC [1, 1, 1, 1, 1, 1, 0, 1, 2, 2, 1, 1, 0, 2, 1, 1, 0, 2, 1, 4, 1, 4, 1, 4, 1, 3, 1, 1, 3])) (y := (readC [1, 1, 1, 1, 1, 1, 0, 1, 2, 2, 1, 1, 0, 2, 1, 1, 0, 2, 1, 4, 1, 4, 1, 4, 1, 3, 1, 1, 4])) ht6 ?_
            refine wp_skip ?_
            obtain ⟨e1, e2, e3, e4⟩ := endD_keeps k
            rw [← e1, ← e2, ← e3, ← e4] at hf6
            exact hp f6 w5 (endD k) _ _ _ _ _ _ (step_blk3 hg0 h3 hblk) hf6 hR5
        | none =>
          rw [hblk] at ht4 hf4
          refine wp_cond_false (x := (readC [1, 1, 1, 1, 1, 1, 0, 1, 2, 2, 1, 1, 0, 2, 1, 1, 0, 2, 1, 4, 1, 4, 1, 4, 1, 3])) (y := (readC [1, 1, 1, 1, 1, 1, 0, 1, 2, 2, 1, 1, 0, 2, 1, 1, 0, 2, 1, 4, 1, 4, 1, 4, 1, 4])) ht4 ?_
          refine wp_seq (x := (readC [1, 1, 1, 1, 1, 1, 0, 1, 2, 2, 1, 1, 0, 2, 1, 1, 0, 2, 1, 4, 1, 4, 1, 4, 1, 4, 0])) (y := (readC [1, 1, 1, 1, 1, 1, 0, 1, 2, 2, 1, 1, 0, 2, 1, 1, 0, 2, 1, 4, 1, 4, 1, 4, 1, 4, 1])) ?_
          refine rd34 _ _ g tk nm tx hr hf4 hT ?_
          intro f5 hf5 ht5
          show Code.wp _ (readC [1, 1, 1, 1, 1, 1, 0, 1, 2, 2, 1, 1, 0, 2, 1, 1, 0, 2, 1, 4, 1, 4, 1, 4, 1, 4, 1]) _ _ _
          by_cases hn1 : nm = nB ∨ nm = nStrong
          · rw [decide_eq_true hn1] at ht5
            refine wp_cond_true (x := (readC [1, 1, 1, 1, 1, 1, 0, 1, 2, 2, 1, 1, 0, 2, 1, 1, 0, 2, 1, 4, 1, 4, 1, 4, 1, 4, 1, 3])) (y := (readC [1, 1, 1, 1, 1, 1, 0, 1, 2, 2, 1, 1, 0, 2, 1, 1, 0, 2, 1, 4, 1, 4, 1, 4, 1, 4, 1, 4])) ht5 ?_
            rcases h23 with rfl | rfl
            · refine rd35_2 _ _ k.bold g nm tx hr hf5 hT hbo ?_
              intro f6 w6 hf6 hb6
              exact hp f6 w6 { k with bold := k.bold + 1 } _ _ _ _ _ _ (step_b2 hg0 rfl hblk hn1) hf6 (hR.to hb6)
            · refine rd35_3 _ _ k.bold g nm tx hr hf5 hT hbo ?_
              intro f6 w6 hf6 hb6
              exact hp f6 w6 { k with bold := max 0 (k.bold - 1) } _ _ _ _ _ _ (step_b3 hg0 rfl hblk hn1) hf6 (hR.to hb6)
          · rw [decide_eq_false hn1] at ht5
            refine wp_cond_false (x := (readC [1, 1, 1, 1, 1, 1, 0, 1, 2, 2, 1, 1, 0, 2, 1, 1, 0, 2, 1, 4, 1, 4, 1, 4, 1, 4, 1, 3])) (y := (readC [1, 1, 1, 1, 1, 1, 0, 1, 2, 2, 1, 1, 0, 2, 1, 1, 0, 2, 1, 4, 1, 4, 1, 4, 1, 4, 1, 4])) ht5 ?_
            refine wp_seq (x := (readC [1, 1, 1, 1, 1, 1, 0, 1, 2, 2, 1, 1, 0, 2, 1, 1, 0, 2, 1, 4, 1, 4, 1, 4, 1, 4, 1, 4, 0])) (y := (readC [1, 1, 1, 1, 1, 1, 0, 1, 2, 2, 1, 1, 0, 2, 1, 1, 0, 2, 1, 4, 1, 4, 1, 4, 1, 4, 1, 4, 1])) ?_
            refine rd36 _ _ g tk nm tx hr hf5 hT ?_
            intro f6 hf6 ht6
            show Code.wp _ (readC [1, 1, 1, 1, 1, 1, 0, 1, 2, 2, 1, 1, 0, 2, 1, 1, 0, 2, 1, 4, 1, 4, 1, 4, 1, 4, 1, 4, 1]) _ _ _
            by_cases hn2 : nm = nI ∨ nm = nEm
            · rw [decide_eq_true hn2] at ht6
              refine wp_cond_true (x := (readC [1, 1, 1, 1, 1, 1, 0, 1, 2, 2, 1, 1, 0, 2, 1, 1, 0, 2, 1, 4, 1, 4, 1, 4, 1, 4, 1, 4, 1, 3])) (y := (readC [1, 1, 1, 1, 1, 1, 0, 1, 2, 2, 1, 1, 0, 2, 1, 1, 0, 2, 1, 4, 1, 4, 1, 4, 1, 4, 1, 4, 1, 4])) ht6 ?_
              rcases h23 with rfl | rfl
              · refine rd37_2 _ _ k.slant g nm tx hr hf6 hT hsl ?_
                intro f6 w6 hf6 hb6
                exact hp f6 w6 { k with slant := k.slant + 1 } _ _ _ _ _ _ (step_i2 hg0 rfl hblk hn1 hn2) hf6 (hR.to hb6)
              · refine rd37_3 _ _ k.slant g nm tx hr hf6 hT hsl ?_
                intro f6 w6 hf6 hb6
                exact hp f6 w6 { k with slant := max 0 (k.slant - 1) } _ _ _ _ _ _ (step_i3 hg0 rfl hblk hn1 hn2) hf6 (hR.to hb6)
            · rw [decide_eq_false hn2] at ht6
              refine wp_cond_false (x := (readC [1, 1, 1, 1, 1, 1, 0, 1, 2, 2, 1, 1, 0, 2, 1, 1, 0, 2, 1, 4, 1, 4, 1, 4, 1, 4, 1, 4, 1, 3])) (y := (readC [1, 1, 1, 1, 1, 1, 0, 1, 2, 2, 1, 1, 0, 2, 1, 1, 0, 2, 1, 4, 1, 4, 1, 4, 1, 4, 1, 4, 1, 4])) ht6 ?_
              refine wp_seq (x := (readC [1, 1, 1, 1, 1, 1, 0, 1, 2, 2, 1, 1, 0, 2, 1, 1, 0, 2, 1, 4, 1, 4, 1, 4, 1, 4, 1, 4, 1, 4, 0])) (y := (readC [1, 1, 1, 1, 1, 1, 0, 1, 2, 2, 1, 1, 0, 2, 1, 1, 0, 2, 1, 4, 1, 4, 1, 4, 1, 4, 1, 4, 1, 4, 1])) ?_
              refine rd38 _ _ g tk nm tx hr hf6 hT ?_
              intro f7 hf7 ht7
              show Code.wp _ (readC [1, 1, 1, 1, 1, 1, 0, 1, 2, 2, 1, 1, 0, 2, 1, 1, 0, 2, 1, 4, 1, 4, 1, 4, 1, 4, 1, 4, 1, 4, 1]) _ _ _
              by_cases hn3 : nm = nA
              · rw [decide_eq_true hn3] at ht7
                refine wp_cond_true (x := (readC [1, 1, 1, 1, 1, 1, 0, 1, 2, 2, 1, 1, 0, 2, 1, 1, 0, 2, 1, 4, 1, 4, 1, 4, 1, 4, 1, 4, 1, 4, 1, 3])) (y := (readC [1, 1, 1, 1, 1, 1, 0, 1, 2, 2, 1, 1, 0, 2, 1, 1, 0, 2, 1, 4, 1, 4, 1, 4, 1, 4, 1, 4, 1, 4, 1, 4])) ht7 ?_
                refine wp_seq (x := (readC [1, 1, 1, 1, 1, 1, 0, 1, 2, 2, 1, 1, 0, 2, 1, 1, 0, 2, 1, 4, 1, 4, 1, 4, 1, 4, 1, 4, 1, 4, 1, 3, 0])) (y := (readC [1, 1, 1, 1, 1, 1, 0, 1, 2, 2, 1, 1, 0, 2, 1, 1, 0, 2, 1, 4, 1, 4, 1, 4, 1, 4, 1, 4, 1, 4, 1, 3, 1])) ?_
                refine rd39 _ _ hf7 ?_
                intro f8 hf8
                show Code.wp _ (readC [1, 1, 1, 1, 1, 1, 0, 1, 2, 2, 1, 1, 0, 2, 1, 1, 0, 2, 1, 4, 1, 4, 1, 4, 1, 4, 1, 4, 1, 4, 1, 3, 1]) _ _ _
                refine wp_seq (x := (readC [1, 1, 1, 1, 1, 1, 0, 1, 2, 2, 1, 1, 0, 2, 1, 1, 0, 2, 1, 4, 1, 4, 1, 4, 1, 4, 1, 4, 1, 4, 1, 3, 1, 0])) (y := (readC [1, 1, 1, 1, 1, 1, 0, 1, 2, 2, 1, 1, 0, 2, 1, 1, 0, 2, 1, 4, 1, 4, 1, 4, 1, 4, 1, 4, 1, 4, 1, 3, 1, 1])) ?_
                refine rd40 _ _ g tk nm tx hr hf8 hT ?_
                intro f9 hf9 ht9
                show Code.wp _ (readC [1, 1, 1, 1, 1, 1, 0, 1, 2, 2, 1, 1, 0, 2, 1, 1, 0, 2, 1, 4, 1, 4, 1, 4, 1, 4, 1, 4, 1, 4, 1, 3, 1, 1]) _ _ _
                rcases h23 with h2 | h3
                · rw [decide_eq_true h2] at ht9
                  refine wp_cond_true (x := (readC [1, 1, 1, 1, 1, 1, 0, 1, 2, 2, 1, 1, 0, 2, 1, 1, 0, 2, 1, 4, 1, 4, 1, 4, 1, 4, 1, 4, 1, 4, 1, 3, 1, 1, 3])) (y := (readC [1, 1, 1, 1, 1, 1, 0, 1, 2, 2, 1, 1, 0, 2, 1, 1, 0, 2, 1, 4, 1, 4, 1, 4, 1, 4, 1, 4, 1, 4, 1, 3, 1, 1, 4])) ht9 ?_
                  refine rd41 _ _ g tk nm tx hr hf9 hT hm hhr ?_
                  intro f10 w10 hf10 hb10
                  exact hp f10 w10 { k with link := cleanT hr } _ _ _ _ _ _ (step_a2 hg0 h2 hblk hn1 hn2 hn3) hf10 (hR.to hb10)
                · rw [decide_eq_false (by omega)] at ht9
                  refine wp_cond_false (x := (readC [1, 1, 1, 1, 1, 1, 0, 1, 2, 2, 1, 1, 0, 2, 1, 1, 0, 2, 1, 4, 1, 4, 1, 4, 1, 4, 1, 4, 1, 4, 1, 3, 1, 1, 3])) (y := (readC [1, 1, 1, 1, 1, 1, 0, 1, 2, 2, 1, 1, 0, 2, 1, 1, 0, 2, 1, 4, 1, 4, 1, 4, 1, 4, 1, 4, 1, 4, 1, 3, 1, 1, 4])) ht9 ?_
                  refine wp_skip ?_
                  exact hp f9 w { k with link := [] } _ _ _ _ _ _ (step_a3 hg0 h3 hblk hn1 hn2 hn3) hf9 hR
              · rw [decide_eq_false hn3] at ht7
                refine wp_cond_false (x := (readC [1, 1, 1, 1, 1, 1, 0, 1, 2, 2, 1, 1, 0, 2, 1, 1, 0, 2, 1, 4, 1, 4, 1, 4, 1, 4, 1, 4, 1, 4, 1, 3])) (y := (readC [1, 1, 1, 1, 1, 1, 0, 1, 2, 2, 1, 1, 0, 2, 1, 1, 0, 2, 1, 4, 1, 4, 1, 4, 1, 4, 1, 4, 1, 4, 1, 4])) ht7 ?_
                refine wp_seq (x := (readC [1, 1, 1, 1, 1, 1, 0, 1, 2, 2, 1, 1, 0, 2, 1, 1, 0, 2, 1, 4, 1, 4, 1, 4, 1, 4, 1, 4, 1, 4, 1, 4, 0])) (y := (readC [1, 1, 1, 1, 1, 1, 0, 1, 2, 2, 1, 1, 0, 2, 1, 1, 0, 2, 1, 4, 1, 4, 1, 4, 1, 4, 1, 4, 1, 4, 1, 4, 1])) ?_
                refine rd42 _ _ g tk nm tx hr hf7 hT ?_
                intro f8 hf8 ht8
                show Code.wp _ (readC [1, 1, 1, 1, 1, 1, 0, 1, 2, 2, 1, 1, 0, 2, 1, 1, 0, 2, 1, 4, 1, 4, 1, 4, 1, 4, 1, 4, 1, 4, 1, 4, 1]) _ _ _
                rcases h23 with h2 | h3
                · rw [decide_eq_false (by omega)] at ht8
                  refine wp_cond_false (x := (readC [1, 1, 1, 1, 1, 1, 0, 1, 2, 2, 1, 1, 0, 2, 1, 1, 0, 2, 1, 4, 1, 4, 1, 4, 1, 4, 1, 4, 1, 4, 1, 4, 1, 3])) (y := (readC [1, 1, 1, 1, 1, 1, 0, 1, 2, 2, 1, 1, 0, 2, 1, 1, 0, 2, 1, 4, 1, 4, 1, 4, 1, 4, 1, 4, 1, 4, 1, 4, 1, 4])) ht8 ?_
                  refine wp_seq (x := (readC [1, 1, 1, 1, 1, 1, 0, 1, 2, 2, 1, 1, 0, 2, 1, 1, 0, 2, 1, 4, 1, 4, 1, 4, 1, 4, 1, 4, 1, 4, 1, 4, 1, 4, 0])) (y := (readC [1, 1, 1, 1, 1, 1, 0, 1, 2, 2, 1, 1, 0, 2, 1, 1, 0, 2, 1, 4, 1, 4, 1, 4, 1, 4, 1, 4, 1, 4, 1, 4, 1, 4, 1])) ?_
                  refine rd43 _ _ g tk nm tx hr hf8 hT ?_
                  intro f9 hf9 ht9
                  show Code.wp _ (readC [1, 1, 1, 1, 1, 1, 0, 1, 2, 2, 1, 1, 0, 2, 1, 1, 0, 2, 1, 4, 1, 4, 1, 4, 1, 4, 1, 4, 1, 4, 1, 4, 1, 4, 1]) _ _ _
                  by_cases hn4 : nm = nBr
                  · rw [decide_eq_true hn4] at ht9
                    refine wp_cond_true (x := (readC [1, 1, 1, 1, 1, 1, 0, 1, 2, 2, 1, 1, 0, 2, 1, 1, 0, 2, 1, 4, 1, 4, 1, 4, 1, 4, 1, 4, 1, 4, 1, 4, 1, 4, 1, 3])) (y := (readC [1, 1, 1, 1, 1, 1, 0, 1, 2, 2, 1, 1, 0, 2, 1, 1, 0, 2, 1, 4, 1, 4, 1, 4, 1, 4, 1, 4, 1, 4, 1, 4, 1, 4, 1, 4])) ht9 ?_
                    refine wp_seq (x := (readC [1, 1, 1, 1, 1, 1, 0, 1, 2, 2, 1, 1, 0, 2, 1, 1, 0, 2, 1, 4, 1, 4, 1, 4, 1, 4, 1, 4, 1, 4, 1, 4, 1, 4, 1, 3, 0])) (y := (readC [1, 1, 1, 1, 1, 1, 0, 1, 2, 2, 1, 1, 0, 2, 1, 1, 0, 2, 1, 4, 1, 4, 1, 4, 1, 4, 1, 4, 1, 4, 1, 4, 1, 4, 1, 3, 1])) ?_
                    refine rd44 _ _ hf9 hR ?_
                    intro f10 hf10
                    show Code.wp _ (readC [1, 1, 1, 1, 1, 1, 0, 1, 2, 2, 1, 1, 0, 2, 1, 1, 0, 2, 1, 4, 1, 4, 1, 4, 1, 4, 1, 4, 1, 4, 1, 4, 1, 4, 1, 3, 1]) _ _ _
                    refine wp_seq (x := (readC [1, 1, 1, 1, 1, 1, 0, 1, 2, 2, 1, 1, 0, 2, 1, 1, 0, 2, 1, 4, 1, 4, 1, 4, 1, 4, 1, 4, 1, 4, 1, 4, 1, 4, 1, 3, 1, 0])) (y := (readC [1, 1, 1, 1, 1, 1, 0, 1, 2, 2, 1, 1, 0, 2, 1, 1, 0, 2, 1, 4, 1, 4, 1, 4, 1, 4, 1, 4, 1, 4, 1, 4, 1, 4, 1, 3, 1, 1])) ?_
                    refine rd45 _ _ hf10 hR ?_
                    intro f11 w11 hf11 hR11
                    show Code.wp _ (readC [1, 1, 1, 1, 1, 1, 0, 1, 2, 2, 1, 1, 0, 2, 1, 1, 0, 2, 1, 4, 1, 4, 1, 4, 1, 4, 1, 4, 1, 4, 1, 4, 1, 4, 1, 3, 1, 1]) _ _ _
                    refine wp_seq (x := (readC [1, 1, 1, 1, 1, 1, 0, 1, 2, 2, 1, 1, 0, 2, 1, 1, 0, 2, 1, 4, 1, 4, 1, 4, 1, 4, 1, 4, 1, 4, 1, 4, 1, 4, 1, 3, 1, 1, 0])) (y := (readC [1, 1, 1, 1, 1, 1, 0, 1, 2, 2, 1, 1, 0, 2, 1, 1, 0, 2, 1, 4, 1, 4, 1, 4, 1, 4, 1, 4, 1, 4, 1, 4, 1, 4, 1, 3, 1, 1, 1])) ?_
                    refine rd46 _ _ { k with inn := true } hf11 hR11 (by simp only; omega) hfo ?_
                    intro f12 w12 hf12 hR12 hK12
                    show Code.wp _ (readC [1, 1, 1, 1, 1, 1, 0, 1, 2, 2, 1, 1, 0, 2, 1, 1, 0, 2, 1, 4, 1, 4, 1, 4, 1, 4, 1, 4, 1, 4, 1, 4, 1, 4, 1, 3, 1, 1, 1]) _ _ _
                    refine rd47 _ _ k.kind hf12 hR12 ?_
                    intro f13 w13 hf13 hR13
                    obtain ⟨e1, e2, e3, e4⟩ := endD_keeps { k with inn := true }
                    have e1' : (endD { k with inn := true }).bold = k.bold := e1
                    have e2' : (endD { k with inn := true }).slant = k.slant := e2
                    have e3' : (endD { k with inn := true }).link = k.link := e3
                    have e4' : (endD { k with inn := true }).gone = k.gone := e4
                    rw [← e1', ← e2', ← e3', ← e4'] at hf13
                    have hin : (endD { k with inn := true }).inn = false := by rw [endD_in rfl]
                    exact hp f13 w13 { endD { k with inn := true } with kind := k.kind } _ _ _ _ _ _ (step_br hg0 h2 hblk hn1 hn2 hn3 hn4) hf13 hR13
                  · rw [decide_eq_false hn4] at ht9
                    refine wp_cond_false (x := (readC [1, 1, 1, 1, 1, 1, 0, 1, 2, 2, 1, 1, 0, 2, 1, 1, 0, 2, 1, 4, 1, 4, 1, 4, 1, 4, 1, 4, 1, 4, 1, 4, 1, 4, 1, 3])) (y := (readC [1, 1, 1, 1, 1, 1, 0, 1, 2, 2, 1, 1, 0, 2, 1, 1, 0, 2, 1, 4, 1, 4, 1, 4, 1, 4, 1, 4, 1, 4, 1, 4, 1, 4, 1, 4])) ht9 ?_
                    refine wp_seq (x := (readC [1, 1, 1, 1, 1, 1, 0, 1, 2, 2, 1, 1, 0, 2, 1, 1, 0, 2, 1, 4, 1, 4, 1, 4, 1, 4, 1, 4, 1, 4, 1, 4, 1, 4, 1, 4, 0])) (y := (readC [1, 1, 1, 1, 1, 1, 0, 1, 2, 2, 1, 1, 0, 2, 1, 1, 0, 2, 1, 4, 1, 4, 1, 4, 1, 4, 1, 4, 1, 4, 1, 4, 1, 4, 1, 4, 1])) ?_
                    refine rd48 _ _ g tk nm tx hr hf9 hT htab (fun x t t' df w h => hQ x t t' df w h) ?_
                    intro f10 w10 hf10 ht10 hb10
                    show Code.wp _ (readC [1, 1, 1, 1, 1, 1, 0, 1, 2, 2, 1, 1, 0, 2, 1, 1, 0, 2, 1, 4, 1, 4, 1, 4, 1, 4, 1, 4, 1, 4, 1, 4, 1, 4, 1, 4, 1]) _ _ _
                    have hT10 := (hb10.block g (lt_of_heap hT)).trans hT
                    by_cases hn5 : nm ∈ hiddenL
                    · rw [decide_eq_true hn5] at ht10
                      refine wp_cond_true (x := (readC [1, 1, 1, 1, 1, 1, 0, 1, 2, 2, 1, 1, 0, 2, 1, 1, 0, 2, 1, 4, 1, 4, 1, 4, 1, 4, 1, 4, 1, 4, 1, 4, 1, 4, 1, 4, 1, 3])) (y := (readC [1, 1, 1, 1, 1, 1, 0, 1, 2, 2, 1, 1, 0, 2, 1, 1, 0, 2, 1, 4, 1, 4, 1, 4, 1, 4, 1, 4, 1, 4, 1, 4, 1, 4, 1, 4, 1, 4])) ht10 ?_
                      refine rd49 _ _ g tk nm tx hr hf10 hT10 ?_
                      intro f11 hf11
                      exact hp f11 w10 { k with gone := nm } _ _ _ _ _ _ (step_hid hg0 h2 hblk hn1 hn2 hn3 hn4 hn5) hf11 (hR.to hb10)
                    · rw [decide_eq_false hn5] at ht10
                      refine wp_cond_false (x := (readC [1, 1, 1, 1, 1, 1, 0, 1, 2, 2, 1, 1, 0, 2, 1, 1, 0, 2, 1, 4, 1, 4, 1, 4, 1, 4, 1, 4, 1, 4, 1, 4, 1, 4, 1, 4, 1, 3])) (y := (readC [1, 1, 1, 1, 1, 1, 0, 1, 2, 2, 1, 1, 0, 2, 1, 1, 0, 2, 1, 4, 1, 4, 1, 4, 1, 4, 1, 4, 1, 4, 1, 4, 1, 4, 1, 4, 1, 4])) ht10 ?_
                      refine wp_skip ?_
                      exact hp f10 w10 k _ _ _ _ _ _ (step_z2 hg0 h2 hblk hn1 hn2 hn3 hn4 hn5) hf10 (hR.to hb10)
                · rw [decide_eq_true h3] at ht8
                  refine wp_cond_true (x := (readC [1, 1, 1, 1, 1, 1, 0, 1, 2, 2, 1, 1, 0, 2, 1, 1, 0, 2, 1, 4, 1, 4, 1, 4, 1, 4, 1, 4, 1, 4, 1, 4, 1, 3])) (y := (readC [1, 1, 1, 1, 1, 1, 0, 1, 2, 2, 1, 1, 0, 2, 1, 1, 0, 2, 1, 4, 1, 4, 1, 4, 1, 4, 1, 4, 1, 4, 1, 4, 1, 4])) ht8 ?_
                  refine wp_skip ?_
                  exact hp f8 w k _ _ _ _ _ _ (step_z3 hg0 h3 hblk hn1 hn2 hn3) hf8 hR
/-- The frame at the head of a round. -/
def RF (bm b5 b8 b11 : Nat) (ta : Option Addr) (tc : Nat) (L : List Tok) (k : Dk) (i : Nat) (fr : Array Value) : Prop := ∃ c0 c1 c2 c3 c13 c14 c15 c16 c17 c18 c19 c20 c21 c22 c23 c24 : Value, Frm 183 [c0, c1, c2, c3, .map (some bm), ptr b5, .int .i64 k.bold, .int .i64 k.slant, ptr b8, str k.link, str k.gone, ptr b11, .func (.func 76) #[] #[ptr b11, ptr b5, ptr b8], c13, c14, c15, c16, c17, c18, c19, c20, c21, c22, c23, c24, .slice ta L.length tc, .int .i64 (L.length : Int), .int .i64 (i : Int)] fr
theorem ownsMap_at {H : Type} {P : Program} {k : TypeId} {R : Value → Option (DataW H × List MemPlace)} {b n : Nat} {D : DataW H} {w w' : World} (h : w.ownsMap P k R b n D) (e : w'.heap[b]? = w.heap[b]?) : w'.ownsMap P k R b n D := by
  obtain ⟨es, clock, hb, r⟩ := h
  exact ⟨es, clock, e.trans hb, r⟩
theorem rd_loop (Q : Exit → Act → World → Prop) (w : World) {b5 b8 b11 B B1 : Nat} {wt : World} {fr : Array Value} (bm : Nat) (ta : Option Addr) (tc : Nat) (L : List Tok)
    (hL : RToks (fun j => j < B1 ∧ j ≠ b5 ∧ j ≠ b8 ∧ j ≠ b11) wt (.slice ta L.length tc) L) (hmap : wt.ownsMap Tryz.prog 9 (plainElem Tryz.prog 3) bm 5 BD) (hbm : bm < B1 ∧ bm ≠ b5 ∧ bm ≠ b8 ∧ bm ≠ b11)
    (hm : ∀ w', Below B wt w' → ∃ m, w'.cell? ⟨2, 0, none⟩ = some (.int .i64 m)) (htab : ∀ w', Below B wt w' → Tab w') (hsm : ∀ t ∈ L, SmT 20000 t ∧ SmN 20000 t) (hLl : L.length ≤ 100000)
    (hF : RF bm b5 b8 b11 ta tc L dk0 0 fr) (hR : RS B B1 b5 b8 b11 wt w dk0.d dk0.kind dk0.inn)
    (hQ : ∀ x (t t' : Array Value) (df : List Deferred) w, Q (.panic x) ⟨t, df⟩ w → Q (.panic x) ⟨t', df⟩ w)
    (hret : ∀ (fr' : Array Value) (w' : World), sanL dk0 L = ([], 2) → fr'.getD 2 undef = .slice none 0 0 → fr'.getD 3 undef = .int .i64 2 → Below B wt w' → Q .ret ⟨fr', []⟩ w')
    (hend : ∀ (fr' : Array Value) (w' : World) (k : Dk), sanL dk0 L = finD k → Fo k → k.d.length ≤ 80 → RF bm b5 b8 b11 ta tc L k L.length fr' → RS B B1 b5 b8 b11 wt w' k.d k.kind k.inn → Q (.exit 0) ⟨fr', []⟩ w') :
    Code.wp Tryz.prog (readC [1, 1, 1, 1, 1, 1, 0, 1, 2]) Q ⟨fr, []⟩ w := by
  refine wp_loop (c := (readC [1, 1, 1, 1, 1, 1, 0, 1, 2, 2])) (fun a w' => a.defers = [] ∧ ∃ (i : Nat) (k : Dk), i ≤ L.length ∧ sanL dk0 L = sanL k (L.drop i) ∧ Fo k ∧ k.d.length ≤ 80 ∧ (0 ≤ k.bold ∧ k.bold ≤ i ∧ 0 ≤ k.slant ∧ k.slant ≤ i) ∧ RF bm b5 b8 b11 ta tc L k i a.tmps ∧ RS B B1 b5 b8 b11 wt w' k.d k.kind k.inn) (fun a _ => L.length - (intOf (a.tmps.getD 27 undef)).toNat) ⟨rfl, 0, dk0, Nat.zero_le _, rfl, Fo.new, by simp [dk0], by simp [dk0], hF, hR⟩ ?_
  rintro ⟨fa, df⟩ w' ⟨hd, i, k, hi, hsan, hfo, hkl, hbd, hFa, hRw⟩
  obtain rfl : df = [] := hd
  have hFa' := hFa
  unfold RF at hFa
  obtain ⟨c0, hFa⟩ := hFa
  obtain ⟨c1, hFa⟩ := hFa
  obtain ⟨c2, hFa⟩ := hFa
  obtain ⟨c3, hFa⟩ := hFa
  obtain ⟨c13, hFa⟩ := hFa
  obtain ⟨c14, hFa⟩ := hFa
  obtain ⟨c15, hFa⟩ := hFa
  obtain ⟨c16, hFa⟩ := hFa
  obtain ⟨c17, hFa⟩ := hFa
  obtain ⟨c18, hFa⟩ := hFa
  obtain ⟨c19, hFa⟩ := hFa
  obtain ⟨c20, hFa⟩ := hFa
  obtain ⟨c21, hFa⟩ := hFa
  obtain ⟨c22, hFa⟩ := hFa
  obtain ⟨c23, hFa⟩ := hFa
  obtain ⟨c24, hFa⟩ := hFa
  have hLw : RToks (fun _ => True) w' (.slice ta L.length tc) L := hL.to (F' := fun _ => True) (fun j hj _ => ⟨trivial, hRw.same j hj.1 hj.2.1 hj.2.2.1 hj.2.2.2⟩)
  have hown : w'.ownsMap Tryz.prog 9 (plainElem Tryz.prog 3) bm 5 BD := ownsMap_at hmap (hRw.same bm hbm.1 hbm.2.1 hbm.2.2.1 hbm.2.2.2)
  refine wp_seq (x := (readC [1, 1, 1, 1, 1, 1, 0, 1, 2, 2, 0])) (y := (readC [1, 1, 1, 1, 1, 1, 0, 1, 2, 2, 1])) ?_
  refine rd7 _ _ i L.length hFa ?_
  intro f1 hf1 ht1
  show Code.wp _ (readC [1, 1, 1, 1, 1, 1, 0, 1, 2, 2, 1]) _ _ _
  refine wp_seq (x := (readC [1, 1, 1, 1, 1, 1, 0, 1, 2, 2, 1, 0])) (y := (readC [1, 1, 1, 1, 1, 1, 0, 1, 2, 2, 1, 1])) ?_
  by_cases hlt : i < L.length
  · rw [decide_eq_true hlt] at ht1
    obtain ⟨t, ht⟩ : ∃ t, L[i]? = some t := ⟨_, List.getElem?_eq_getElem hlt⟩
    obtain ⟨hs1, hs2⟩ := hsm t (List.mem_of_getElem? ht)
    obtain ⟨tb, tofs, rfl, q0, q1, q2, q3⟩ := RToks.at hLw (brf w') ht
    have hdrop : L.drop i = t :: L.drop (i + 1) := by rw [List.drop_eq_getElem_cons hlt, (List.getElem?_eq_some_iff.1 ht).2]
    rw [hdrop] at hsan
    have hbd2 := stepD_bold k t i hbd
    have hfo2 := hfo.step t
    obtain ⟨tk, nm, tx, hr⟩ := t
    obtain ⟨htx, hhr⟩ := hs1
    obtain ⟨hnl, hk1, hk4⟩ := hs2
    simp only at q0 q1 q2 q3 htx hhr hnl hk1 hk4
    refine wp_cond_true (x := (readC [1, 1, 1, 1, 1, 1, 0, 1, 2, 2, 1, 0, 3])) (y := (readC [1, 1, 1, 1, 1, 1, 0, 1, 2, 2, 1, 0, 4])) ht1 ?_
    refine wp_skip ?_
    show Code.wp _ (readC [1, 1, 1, 1, 1, 1, 0, 1, 2, 2, 1, 1]) _ _ _
    refine wp_seq (x := (readC [1, 1, 1, 1, 1, 1, 0, 1, 2, 2, 1, 1, 0])) (y := (readC [1, 1, 1, 1, 1, 1, 0, 1, 2, 2, 1, 1, 1])) ?_
    refine wp_block (c := (readC [1, 1, 1, 1, 1, 1, 0, 1, 2, 2, 1, 1, 0, 2])) ?_
    refine wp_seq (x := (readC [1, 1, 1, 1, 1, 1, 0, 1, 2, 2, 1, 1, 0, 2, 0])) (y := (readC [1, 1, 1, 1, 1, 1, 0, 1, 2, 2, 1, 1, 0, 2, 1])) ?_
    refine rd8 _ _ tb tofs L.length tc i tk nm tx hr hf1 hlt q0 q1 q2 q3 ?_
    intro f2 hf2
    show Code.wp _ (readC [1, 1, 1, 1, 1, 1, 0, 1, 2, 2, 1, 1, 0, 2, 1]) _ _ _
    refine wp_seq (x := (readC [1, 1, 1, 1, 1, 1, 0, 1, 2, 2, 1, 1, 0, 2, 1, 0])) (y := (readC [1, 1, 1, 1, 1, 1, 0, 1, 2, 2, 1, 1, 0, 2, 1, 1])) ?_
    have hB2 := bal (brf w') (.cells #[.int .i64 tk, str nm, str tx, str hr] 115)
    have hT := heap_new w' (.cells #[.int .i64 tk, str nm, str tx, str hr] 115)
    have hR2 := hRw.to hB2
    have hown2 := ownsMap_at hown (hB2.block bm (Nat.lt_of_lt_of_le hbm.1 hRw.siz))
    refine rd9 _ _ bm w'.heap.size tk nm tx hr hf2 hT hown2 (by omega) ?_
    intro f3 hf3
    show Code.wp _ (readC [1, 1, 1, 1, 1, 1, 0, 1, 2, 2, 1, 1, 0, 2, 1, 1]) _ _ _
    refine wp_seq (x := (readC [1, 1, 1, 1, 1, 1, 0, 1, 2, 2, 1, 1, 0, 2, 1, 1, 0])) (y := (readC [1, 1, 1, 1, 1, 1, 0, 1, 2, 2, 1, 1, 0, 2, 1, 1, 1])) ?_
    refine rd_tok _ _ k w'.heap.size tk nm tx hr hf3 hR2 hT hRw.siz (hm _ hR2.bel) (htab _ hR2.bel) ⟨hk1, hk4⟩ hkl htx hhr hfo (by omega) (by omega) (fun x t t' df w h => hQ x t t' df w h) ?_
    intro f4 w4 K2 d15 d16 d17 d18 d19 d20 hst hf4 hR4
    rw [hst] at hbd2 hfo2
    have hsan2 : sanL dk0 L = if 80 < K2.d.length then ([], 2) else sanL K2 (L.drop (i + 1)) := by rw [hsan, ← hst]; rfl
    show Code.wp _ (readC [1, 1, 1, 1, 1, 1, 0, 1, 2, 2, 1, 1, 0, 2, 1, 1, 1]) _ _ _
    refine wp_seq (x := (readC [1, 1, 1, 1, 1, 1, 0, 1, 2, 2, 1, 1, 0, 2, 1, 1, 1, 0])) (y := (readC [1, 1, 1, 1, 1, 1, 0, 1, 2, 2, 1, 1, 0, 2, 1, 1, 1, 1])) ?_
    refine rd50 _ _ hf4 hR4 ?_
    intro f5 hf5 ht5
    show Code.wp _ (readC [1, 1, 1, 1, 1, 1, 0, 1, 2, 2, 1, 1, 0, 2, 1, 1, 1, 1]) _ _ _
    by_cases hbig : 80 < K2.d.length
    · rw [decide_eq_true hbig] at ht5
      refine wp_cond_true (x := (readC [1, 1, 1, 1, 1, 1, 0, 1, 2, 2, 1, 1, 0, 2, 1, 1, 1, 1, 3])) (y := (readC [1, 1, 1, 1, 1, 1, 0, 1, 2, 2, 1, 1, 0, 2, 1, 1, 1, 1, 4])) ht5 ?_
      refine wp_seq (x := (readC [1, 1, 1, 1, 1, 1, 0, 1, 2, 2, 1, 1, 0, 2, 1, 1, 1, 1, 3, 0])) (y := (readC [1, 1, 1, 1, 1, 1, 0, 1, 2, 2, 1, 1, 0, 2, 1, 1, 1, 1, 3, 1])) ?_
      refine rd51 _ _ hf5 ?_
      intro f6 hf6
      show Code.wp _ (readC [1, 1, 1, 1, 1, 1, 0, 1, 2, 2, 1, 1, 0, 2, 1, 1, 1, 1, 3, 1]) _ _ _
      refine wp_ret ?_
      exact hret f6 w4 (by rw [hsan2, if_pos hbig]) (hf6.get rfl) (hf6.get rfl) hR4.bel
    · rw [decide_eq_false hbig] at ht5
      rw [if_neg hbig] at hsan2
      refine wp_cond_false (x := (readC [1, 1, 1, 1, 1, 1, 0, 1, 2, 2, 1, 1, 0, 2, 1, 1, 1, 1, 3])) (y := (readC [1, 1, 1, 1, 1, 1, 0, 1, 2, 2, 1, 1, 0, 2, 1, 1, 1, 1, 4])) ht5 ?_
      refine wp_skip ?_
      show Code.wp _ (readC [1, 1, 1, 1, 1, 1, 0, 1, 2, 2, 1, 1, 1]) _ _ _
      refine rd52 _ _ i hf5 (by omega) ?_
      intro f6 hf6
      refine ⟨⟨rfl, i + 1, K2, hlt, hsan2, hfo2, by omega, by omega, ⟨_, _, _, _, _, _, _, _, _, _, _, _, _, _, _, _, hf6⟩, hR4⟩, ?_⟩
      show L.length - (intOf (f6.getD 27 undef)).toNat < L.length - (intOf (fa.getD 27 undef)).toNat
      rw [hf6.get rfl, hFa.get rfl]
      simp only [intOf]
      omega
  · rw [decide_eq_false hlt] at ht1
    refine wp_cond_false (x := (readC [1, 1, 1, 1, 1, 1, 0, 1, 2, 2, 1, 0, 3])) (y := (readC [1, 1, 1, 1, 1, 1, 0, 1, 2, 2, 1, 0, 4])) ht1 ?_
    refine wp_exit ?_
    obtain rfl : i = L.length := by omega
    rw [List.drop_length] at hsan
    exact hend f1 w' k hsan hfo hkl ⟨_, _, _, _, _, _, _, _, _, _, _, _, _, _, _, _, hf1⟩ hRw
theorem rd_body (Q : Exit → Act → World → Prop) (w : World) {fr : Array Value} {c1 c2 c3 c4 c6 c7 c9 c10 c13 c14 c15 c16 c17 c18 c19 c20 c21 c22 c23 c24 c25 c26 c27 c5 c8 c11 c12 v : Value} (S : Bs) (FF : Nat → Prop) (hf : Frm 183 [v, c1, c2, c3, c4, c5, c6, c7, c8, c9, c10, c11, c12, c13, c14, c15, c16, c17, c18, c19, c20, c21, c22, c23, c24, c25, c26, c27] fr) (h : RBytes FF w v S) (hm : ∃ m, w.cell? ⟨2, 0, none⟩ = some (.int .i64 m)) (htab : Tab w) (hS : S.length ≤ 20000)
    (hQ : ∀ x (t t' : Array Value) (df : List Deferred) w, Q (.panic x) ⟨t, df⟩ w → Q (.panic x) ⟨t', df⟩ w)
    (hret : ∀ (fr' : Array Value) (w' : World) (r : Value), fr'.getD 2 undef = r → fr'.getD 3 undef = .int .i64 (sanL dk0 (pageT S)).2 → RItems (w.heap.size ≤ ·) w' r (sanL dk0 (pageT S)).1 → Below w.heap.size w w' → Q .ret ⟨fr', []⟩ w') :
    Code.wp Tryz.prog (readC []) Q ⟨fr, []⟩ w := by
  refine wp_seq (x := (readC [0])) (y := (readC [1])) ?_
  refine rd0 _ _ hf ?_
  intro f0 hf0
  show Code.wp _ (readC [1]) _ _ _
  refine wp_seq (x := (readC [1, 0])) (y := (readC [1, 1])) ?_
  refine rd1 _ _ hf0 ?_
  intro f1 w1 hf1 hown1 hb1
  show Code.wp _ (readC [1, 1]) _ _ _
  refine wp_seq (x := (readC [1, 1, 0])) (y := (readC [1, 1, 1])) ?_
  refine rd2 _ _ hf1 ?_
  intro f2 hf2
  show Code.wp _ (readC [1, 1, 1]) _ _ _
  refine wp_seq (x := (readC [1, 1, 1, 0])) (y := (readC [1, 1, 1, 1])) ?_
  refine rd3 _ _ hf2 ?_
  intro f3 hf3
  show Code.wp _ (readC [1, 1, 1, 1]) _ _ _
  refine wp_seq (x := (readC [1, 1, 1, 1, 0])) (y := (readC [1, 1, 1, 1, 1])) ?_
  refine rd4 _ _ hf3 ?_
  intro f4 hf4
  show Code.wp _ (readC [1, 1, 1, 1, 1]) _ _ _
  refine wp_seq (x := (readC [1, 1, 1, 1, 1, 0])) (y := (readC [1, 1, 1, 1, 1, 1])) ?_
  refine rd5 _ _ hf4 ?_
  intro f5 hf5
  show Code.wp _ (readC [1, 1, 1, 1, 1, 1]) _ _ _
  refine wp_seq (x := (readC [1, 1, 1, 1, 1, 1, 0])) (y := (readC [1, 1, 1, 1, 1, 1, 1])) ?_
  refine wp_seq (x := (readC [1, 1, 1, 1, 1, 1, 0, 0])) (y := (readC [1, 1, 1, 1, 1, 1, 0, 1])) ?_
  obtain ⟨w2, hw2⟩ : ∃ w2, w1.alloc (.cells #[.slice none 0 0] 23) = w2 := ⟨_, rfl⟩
  obtain ⟨w3, hw3⟩ : ∃ w3, w2.alloc (.cells #[.int .i64 0] 3) = w3 := ⟨_, rfl⟩
  obtain ⟨w4, hw4⟩ : ∃ w4, w3.alloc (.cells #[.bool false] 4) = w4 := ⟨_, rfl⟩
  rw [hw2] at hf5 ⊢
  rw [hw3] at hf5 ⊢
  rw [hw4]
  have n2 : w2.heap.size = w1.heap.size + 1 := by rw [← hw2]; simp
  have n3 : w3.heap.size = w2.heap.size + 1 := by rw [← hw3]; simp
  have n4 : w4.heap.size = w3.heap.size + 1 := by rw [← hw4]; simp
  have hb2 : Below w1.heap.size w1 w2 := by rw [← hw2]; exact bal (brf w1) _
  have hb3 : Below w2.heap.size w2 w3 := by rw [← hw3]; exact bal (brf w2) _
  have hb4 : Below w3.heap.size w3 w4 := by rw [← hw4]; exact bal (brf w3) _
  have hB4 : Below w.heap.size w w4 := btr (btr (btr hb1 hb2) hb3) hb4
  have hbs := hb1.size
  have hbml := hown1.lt
  have hm4 := someT hm hB4
  refine rd6 _ _ v S (fun _ => True) hf5 (h.to (F' := fun _ => True) (fun j _ hj => ⟨trivial, hB4.block j hj⟩)) hm4 hS ?_
  intro f6 wt ta tc hf6 hrt hbt
  show Code.wp _ (readC [1, 1, 1, 1, 1, 1, 0, 1]) _ _ _
  have hBt : Below w.heap.size w wt := btr hB4 hbt
  have hst := hbt.size
  have h5 : wt.heap[w1.heap.size]? = some (.cells #[.slice none ([] : List It).length 0] 23 (0, 0)) := by
    rw [hbt.block _ (by omega), hb4.block _ (by omega), hb3.block _ (by omega), ← hw2]; exact heap_new _ _
  have h8 : wt.heap[w2.heap.size]? = some (.cells #[.int .i64 0] 3 (0, 0)) := by
    rw [hbt.block _ (by omega), hb4.block _ (by omega), ← hw3]; exact heap_new _ _
  have h11 : wt.heap[w3.heap.size]? = some (.cells #[.bool false] 4 (0, 0)) := by
    rw [hbt.block _ (by omega), ← hw4]; exact heap_new _ _
  have hR0 : RS w.heap.size wt.heap.size w1.heap.size w2.heap.size w3.heap.size wt wt dk0.d dk0.kind dk0.inn := ⟨⟨none, 0, h5, OwnS.nil⟩, h8, h11, fun _ _ _ _ _ => rfl, Below.refl _ _, Nat.le_refl _, ⟨by omega, by omega⟩, ⟨by omega, by omega⟩, ⟨by omega, by omega⟩, by omega, by omega, by omega⟩
  have hownt := ownsMap_at (w' := wt) hown1 (by rw [hbt.block _ (by omega), hb4.block _ (by omega), hb3.block _ (by omega), hb2.block _ hbml])
  have hLt : RToks (fun j => j < wt.heap.size ∧ j ≠ w1.heap.size ∧ j ≠ w2.heap.size ∧ j ≠ w3.heap.size) wt (.slice ta (pageT S).length tc) (pageT S) := hrt.to (fun j hj hlt => ⟨⟨hlt, by omega, by omega, by omega⟩, rfl⟩)
  have hsm : ∀ t ∈ pageT S, SmT 20000 t ∧ SmN 20000 t := fun t ht => by
    obtain ⟨a1, a2⟩ := page_small S t ht
    obtain ⟨b1, b2, b3⟩ := page_named S t ht
    exact ⟨⟨by omega, by omega⟩, ⟨by omega, b2, b3⟩⟩
  have hpl := page_len S
  obtain ⟨m, hmx⟩ := hm
  have hmB : ∀ w', Below w.heap.size wt w' → ∃ m, w'.cell? ⟨2, 0, none⟩ = some (.int .i64 m) := fun w' hb => ⟨m, ((hBt.trans hb).cell (lt_of_cell hmx)).trans hmx⟩
  have htl : (0 : Nat) < w.heap.size := by
    have hgn : Tryz.prog.globalNamed "strings.asciiSpace" = some 0 := by kernel_rfl
    exact lt_of_cell (htab.cell hgn 0 (by rw [Lib.asciiSpaceTab_length]; decide))
  have htB : ∀ w', Below w.heap.size wt w' → Tab w' := fun w' hb => htab.to ((hBt.trans hb).block _ htl)
  obtain ⟨L, hLe⟩ : ∃ L, pageT S = L := ⟨_, rfl⟩
  rw [hLe] at hf6 hLt hsm hpl hret
  clear hLe hrt
  have hend : ∀ (fx : Array Value) (wx : World) (k : Dk), sanL dk0 L = finD k → Fo k → k.d.length ≤ 80 → RF w.heap.size w1.heap.size w2.heap.size w3.heap.size ta tc L k L.length fx → RS w.heap.size wt.heap.size w1.heap.size w2.heap.size w3.heap.size wt wx k.d k.kind k.inn → Code.wp Tryz.prog (readC [1, 1, 1, 1, 1, 1, 1]) Q ⟨fx, []⟩ wx := by
    intro fx wx k hfin hfo hkl hF hRx
    unfold RF at hF
    obtain ⟨c0, hF⟩ := hF
    obtain ⟨c1, hF⟩ := hF
    obtain ⟨c2, hF⟩ := hF
    obtain ⟨c3, hF⟩ := hF
    obtain ⟨c13, hF⟩ := hF
    obtain ⟨c14, hF⟩ := hF
    obtain ⟨c15, hF⟩ := hF
    obtain ⟨c16, hF⟩ := hF
    obtain ⟨c17, hF⟩ := hF
    obtain ⟨c18, hF⟩ := hF
    obtain ⟨c19, hF⟩ := hF
    obtain ⟨c20, hF⟩ := hF
    obtain ⟨c21, hF⟩ := hF
    obtain ⟨c22, hF⟩ := hF
    obtain ⟨c23, hF⟩ := hF
    obtain ⟨c24, hF⟩ := hF
    refine wp_seq (x := (readC [1, 1, 1, 1, 1, 1, 1, 0])) (y := (readC [1, 1, 1, 1, 1, 1, 1, 1])) ?_
    refine wp_seq (x := (readC [1, 1, 1, 1, 1, 1, 1, 0, 0])) (y := (readC [1, 1, 1, 1, 1, 1, 1, 0, 1])) ?_
    refine rd53 _ _ k hF hRx (by omega) hfo ?_
    intro f7 w7 hf7 hR7 hK7
    show Code.wp _ (readC [1, 1, 1, 1, 1, 1, 1, 0, 1]) _ _ _
    refine wp_seq (x := (readC [1, 1, 1, 1, 1, 1, 1, 0, 1, 0])) (y := (readC [1, 1, 1, 1, 1, 1, 1, 0, 1, 1])) ?_
    have hB7 := hBt.trans hR7.bel
    unfold finD at hfin
    refine rd54 _ _ hf7 hR7 ?_
    intro f8 hf8 ht8
    show Code.wp _ (readC [1, 1, 1, 1, 1, 1, 1, 0, 1, 1]) _ _ _
    have hfn : ∀ (fy : Array Value) (wy : World) (D : List It) (da : Option Addr) (dc : Nat), (if (endD k).d = [] then [⟨10, 0, []⟩] else (endD k).d) = D → Frm 183 [c0, c1, c2, c3, .map (some w.heap.size), ptr w1.heap.size, .int .i64 k.bold, .int .i64 k.slant, ptr w2.heap.size, str k.link, str k.gone, ptr w3.heap.size, .func (.func 76) #[] #[ptr w3.heap.size, ptr w1.heap.size, ptr w2.heap.size], c13, c14, c15, c16, c17, c18, c19, c20, c21, c22, c23, c24, .slice ta L.length tc, .int .i64 (L.length : Int), .int .i64 (L.length : Int)] fy → wy.heap[w1.heap.size]? = some (.cells #[.slice da D.length dc] 23 (0, 0)) → RItems (w.heap.size ≤ ·) wy (.slice da D.length dc) D → Below w.heap.size w wy → Code.wp Tryz.prog (readC [1, 1, 1, 1, 1, 1, 1, 1]) Q ⟨fy, []⟩ wy := by
      intro fy wy D da dc hD hfy h5y hry hBy
      rw [hD] at hfin
      refine wp_seq (x := (readC [1, 1, 1, 1, 1, 1, 1, 1, 0])) (y := (readC [1, 1, 1, 1, 1, 1, 1, 1, 1])) ?_
      refine wp_seq (x := (readC [1, 1, 1, 1, 1, 1, 1, 1, 0, 0])) (y := (readC [1, 1, 1, 1, 1, 1, 1, 1, 0, 1])) ?_
      refine rd56 _ _ da dc D hfy h5y ?_
      intro f9 hf9 ht9
      show Code.wp _ (readC [1, 1, 1, 1, 1, 1, 1, 1, 0, 1]) _ _ _
      by_cases hbig : 80 < D.length
      · rw [decide_eq_true hbig] at ht9
        rw [if_pos hbig] at hfin
        rw [hfin] at hret
        refine wp_cond_true (x := (readC [1, 1, 1, 1, 1, 1, 1, 1, 0, 1, 3])) (y := (readC [1, 1, 1, 1, 1, 1, 1, 1, 0, 1, 4])) ht9 ?_
        refine wp_seq (x := (readC [1, 1, 1, 1, 1, 1, 1, 1, 0, 1, 3, 0])) (y := (readC [1, 1, 1, 1, 1, 1, 1, 1, 0, 1, 3, 1])) ?_
        refine rd57 _ _ hf9 ?_
        intro f10 hf10
        show Code.wp _ (readC [1, 1, 1, 1, 1, 1, 1, 1, 0, 1, 3, 1]) _ _ _
        refine wp_ret ?_
        exact hret f10 wy _ rfl (hf10.get rfl) (by rw [hf10.get (j := 2) rfl]; exact RdS.nil) hBy
      · rw [decide_eq_false hbig] at ht9
        rw [if_neg hbig] at hfin
        rw [hfin] at hret
        refine wp_cond_false (x := (readC [1, 1, 1, 1, 1, 1, 1, 1, 0, 1, 3])) (y := (readC [1, 1, 1, 1, 1, 1, 1, 1, 0, 1, 4])) ht9 ?_
        refine wp_skip ?_
        show Code.wp _ (readC [1, 1, 1, 1, 1, 1, 1, 1, 1]) _ _ _
        refine wp_seq (x := (readC [1, 1, 1, 1, 1, 1, 1, 1, 1, 0])) (y := (readC [1, 1, 1, 1, 1, 1, 1, 1, 1, 1])) ?_
        refine rd58 _ _ da dc D hf9 h5y ?_
        intro f10 hf10
        show Code.wp _ (readC [1, 1, 1, 1, 1, 1, 1, 1, 1, 1]) _ _ _
        refine wp_ret ?_
        exact hret f10 wy _ rfl (hf10.get rfl) (by rw [hf10.get (j := 2) rfl]; exact hry) hBy
    by_cases hnil : (endD k).d = []
    · rw [decide_eq_true hnil] at ht8
      rw [hnil] at hR7
      refine wp_cond_true (x := (readC [1, 1, 1, 1, 1, 1, 1, 0, 1, 1, 3])) (y := (readC [1, 1, 1, 1, 1, 1, 1, 0, 1, 1, 4])) ht8 ?_
      refine rd55 _ _ hf8 hR7 ?_
      intro f9 w9 da dc hf9 h59 hr9 hb9
      show Code.wp _ (readC [1, 1, 1, 1, 1, 1, 1, 1]) _ _ _
      exact hfn f9 w9 [⟨10, 0, []⟩] da dc (if_pos hnil) hf9 h59 hr9 (hBt.trans hb9)
    · rw [decide_eq_false hnil] at ht8
      obtain ⟨da, dc, h57, ho7⟩ := hR7.hd
      refine wp_cond_false (x := (readC [1, 1, 1, 1, 1, 1, 1, 0, 1, 1, 3])) (y := (readC [1, 1, 1, 1, 1, 1, 1, 0, 1, 1, 4])) ht8 ?_
      refine wp_skip ?_
      show Code.wp _ (readC [1, 1, 1, 1, 1, 1, 1, 1]) _ _ _
      exact hfn f8 w7 _ da dc (if_neg hnil) hf8 h57 ((show RItems (wt.heap.size ≤ ·) w7 _ _ from ho7.rd).to (fun j hj _ => ⟨by have : wt.heap.size ≤ j := hj; show w.heap.size ≤ j; omega, rfl⟩)) hB7
  refine wp_block (c := (readC [1, 1, 1, 1, 1, 1, 0, 1, 2])) ?_
  refine rd_loop _ wt w.heap.size ta tc L hLt hownt ⟨by omega, by omega, by omega, by omega⟩ hmB htB hsm (by omega) ⟨_, _, _, _, _, _, _, _, _, _, _, _, _, _, _, _, hf6⟩ hR0 (fun x t t' df w h => hQ x t t' df w h) ?_ ?_
  · intro fr' w' hs h2 h3 hb
    rw [hs] at hret
    exact hret fr' w' _ rfl h3 (by rw [h2]; exact RdS.nil) (hBt.trans hb)
  · intro fr' w' k hs hfo hkl hF hR
    exact hend fr' w' k hs hfo hkl hF hR
set_option maxRecDepth 1000000 in
theorem refRead_any (F : Nat → Prop) (v : Value) (S : Bs) (w : World) (h : RBytes F w v S) (hm : ∃ m, w.cell? ⟨2, 0, none⟩ = some (.int .i64 m)) (htab : Tab w) (hS : S.length ≤ 20000) :
    Calls Tryz.prog 23 #[v] w fun e w' => ∃ r, e = .returned (.tuple #[r, .int .i64 (sanL dk0 (pageT S)).2]) ∧ RItems (w.heap.size ≤ ·) w' r (sanL dk0 (pageT S)).1 ∧ Below w.heap.size w w' := by
  go_enter Tryz.func23, Tryz.ntmps23
  refine rd_body _ w S F ⟨rfl, rfl⟩ h hm htab hS (fun _ _ _ _ _ h => h) ?_
  intro fr' w' r h2 h3 hr hb
  refine bodyPost_ret (v := .tuple #[r, .int .i64 (sanL dk0 (pageT S)).2]) (by simp only [Array.getD_eq_getD_getElem?] at h2 h3; simp [results, Tryz.results23, h2, h3]) rfl ⟨r, rfl, hr, hb⟩
end Go.Proofs.YteikncnldbdfmaaGreatDoor
