/- The reference Tokens: its parts put together. -/
import Derived.Test.YteikncnldbdfmaaGreatDoorRefTb
namespace Go.Mh
theorem fnd_lt {S : Bs} {i : Nat} (hi : i < S.length) {t : Bs} (ht : 1 ≤ t.length) : i < fnd S i t := by
  unfold fnd
  split <;> omega
theorem at0_some {S : Bs} {i : Nat} (h : at0 S i ≠ 0) : S[i]? = some (at0 S i) := by
  unfold at0 at *
  cases hs : S[i]? with
  | none => rw [hs] at h; exact absurd rfl h
  | some c => rfl
theorem cut_len (S : Bs) (i k : Nat) : ((S.take k).drop i).length ≤ S.length := by simp; omega
end Go.Mh
namespace Go.Proofs.YteikncnldbdfmaaGreatDoor
open Go.RowKit Go.Mh
theorem someT {w w' : World} (h : ∃ m, w.cell? ⟨2, 0, none⟩ = some (.int .i64 m)) (hb : Below w.heap.size w w') : ∃ m, w'.cell? ⟨2, 0, none⟩ = some (.int .i64 m) := by
  obtain ⟨m, hm⟩ := h
  exact ⟨m, (hb.cell (lt_of_cell hm)).trans hm⟩
theorem src_keep {B bb b0 o0 cap : Nat} {S : Bs} {w w' : World} (h : Src bb b0 o0 cap S w) (hb : Below B w w') (hbb : bb < B) (h0 : b0 < B) : Src bb b0 o0 cap S w' :=
  ⟨(cell_eq (hb.block bb hbb)).trans h.box, fun k c hk => (cell_eq (hb.block b0 h0)).trans (h.at' k c hk), h.le, h.max⟩
theorem someT' {bb : Nat} {w w' : World} (h : ∃ m, w.cell? ⟨2, 0, none⟩ = some (.int .i64 m)) (hg : 2 < bb + 1) (hb : Below (bb + 1) w w') : ∃ m, w'.cell? ⟨2, 0, none⟩ = some (.int .i64 m) := by
  obtain ⟨m, hm⟩ := h
  exact ⟨m, (cell_eq (hb.block _ hg)).trans hm⟩

theorem tok_value (Q : Exit → Act → World → Prop) (w : World) {bb b0 o0 vc : Nat} {S : Bs} {fr : Array Value} {c0 c2 c3 c6 c7 c8 c9 c11 c12 c13 c14 c15 c16 c18 : Value} (j k2 : Nat) (hf : Frm 349 [c0, ptr bb, c2, c3, .func (.func 131) #[] #[ptr bb], .func (.func 132) #[] #[ptr bb], c6, c7, c8, c9, .int .i64 k2, c11, c12, c13, c14, c15, c16, .int .i64 j, c18] fr) (hsr : Src bb b0 o0 vc S w) (hj : j < S.length) (hS : S.length ≤ 20000) (hm : ∃ m, w.cell? ⟨2, 0, none⟩ = some (.int .i64 m))
    (hp : ∀ (fr' : Array Value) (w' : World) (v : Bs) (e : Nat) (d17 d18 : Value), valueT (S.drop (j + 1)) = (v, S.drop e) → e ≤ S.length → j ≤ e → v.length ≤ 20000 → Frm 349 [c0, ptr bb, c2, c3, .func (.func 131) #[] #[ptr bb], .func (.func 132) #[] #[ptr bb], c6, c7, c8, c9, .int .i64 e, c11, c12, c13, c14, c15, str v, d17, d18] fr' → Below w.heap.size w w' → Q .normal ⟨fr', []⟩ w') :
    Code.wp Tryz.prog (tokC [1, 1, 1, 1, 1, 0, 2, 2, 1, 2, 1, 1, 1, 1, 1, 1, 1, 1, 1, 1, 0, 2, 2, 1, 2, 1, 1, 1, 1, 1, 1, 1, 0, 1, 3]) Q ⟨fr, []⟩ w := by
  refine wp_seq (x := (tokC [1, 1, 1, 1, 1, 0, 2, 2, 1, 2, 1, 1, 1, 1, 1, 1, 1, 1, 1, 1, 0, 2, 2, 1, 2, 1, 1, 1, 1, 1, 1, 1, 0, 1, 3, 0])) (y := (tokC [1, 1, 1, 1, 1, 0, 2, 2, 1, 2, 1, 1, 1, 1, 1, 1, 1, 1, 1, 1, 0, 2, 2, 1, 2, 1, 1, 1, 1, 1, 1, 1, 0, 1, 3, 1])) ?_
  refine tl44 _ _ j hf (Nat.le_of_lt hj) hS ?_
  intro f1 hf1
  show Code.wp _ (tokC [1, 1, 1, 1, 1, 0, 2, 2, 1, 2, 1, 1, 1, 1, 1, 1, 1, 1, 1, 1, 0, 2, 2, 1, 2, 1, 1, 1, 1, 1, 1, 1, 0, 1, 3, 1]) _ _ _
  refine wp_seq (x := (tokC [1, 1, 1, 1, 1, 0, 2, 2, 1, 2, 1, 1, 1, 1, 1, 1, 1, 1, 1, 1, 0, 2, 2, 1, 2, 1, 1, 1, 1, 1, 1, 1, 0, 1, 3, 1, 0])) (y := (tokC [1, 1, 1, 1, 1, 0, 2, 2, 1, 2, 1, 1, 1, 1, 1, 1, 1, 1, 1, 1, 0, 2, 2, 1, 2, 1, 1, 1, 1, 1, 1, 1, 0, 1, 3, 1, 1])) ?_
  refine wp_scan (j := 17) (fun v => [c0, ptr bb, c2, c3, .func (.func 131) #[] #[ptr bb], .func (.func 132) #[] #[ptr bb], c6, c7, c8, c9, .int .i64 k2, c11, c12, c13, c14, c15, c16, v, c18]) isSp (tokC [1, 1, 1, 1, 1, 0, 2, 2, 1, 2, 1, 1, 1, 1, 1, 1, 1, 1, 1, 1, 0, 2, 2, 1, 2, 1, 1, 1, 1, 1, 1, 1, 0, 1, 3, 1, 0, 2, 2, 0, 0]) (tokC [1, 1, 1, 1, 1, 0, 2, 2, 1, 2, 1, 1, 1, 1, 1, 1, 1, 1, 1, 1, 0, 2, 2, 1, 2, 1, 1, 1, 1, 1, 1, 1, 0, 1, 3, 1, 0, 2, 2, 1, 2]) (fun _ => rfl) (fun k' fr' Q' hk' hf' h' => tl45 Q' _ k' hf' hsr h') (fun k' fr' Q' hk' hf' h' => tl46 Q' _ k' hf' (Nat.le_of_lt hk') hS h') hf1 hj ?_
  intro j1 f2 hsc hjj hj1 hst hf2
  show Code.wp _ (tokC [1, 1, 1, 1, 1, 0, 2, 2, 1, 2, 1, 1, 1, 1, 1, 1, 1, 1, 1, 1, 0, 2, 2, 1, 2, 1, 1, 1, 1, 1, 1, 1, 0, 1, 3, 1, 1]) _ _ _
  refine wp_seq (x := (tokC [1, 1, 1, 1, 1, 0, 2, 2, 1, 2, 1, 1, 1, 1, 1, 1, 1, 1, 1, 1, 0, 2, 2, 1, 2, 1, 1, 1, 1, 1, 1, 1, 0, 1, 3, 1, 1, 0])) (y := (tokC [1, 1, 1, 1, 1, 0, 2, 2, 1, 2, 1, 1, 1, 1, 1, 1, 1, 1, 1, 1, 0, 2, 2, 1, 2, 1, 1, 1, 1, 1, 1, 1, 0, 1, 3, 1, 1, 1])) ?_
  refine tl47 _ _ j1 hf2 hsr ?_
  intro f3 hf3
  show Code.wp _ (tokC [1, 1, 1, 1, 1, 0, 2, 2, 1, 2, 1, 1, 1, 1, 1, 1, 1, 1, 1, 1, 0, 2, 2, 1, 2, 1, 1, 1, 1, 1, 1, 1, 0, 1, 3, 1, 1, 1]) _ _ _
  refine wp_seq (x := (tokC [1, 1, 1, 1, 1, 0, 2, 2, 1, 2, 1, 1, 1, 1, 1, 1, 1, 1, 1, 1, 0, 2, 2, 1, 2, 1, 1, 1, 1, 1, 1, 1, 0, 1, 3, 1, 1, 1, 0])) (y := (tokC [1, 1, 1, 1, 1, 0, 2, 2, 1, 2, 1, 1, 1, 1, 1, 1, 1, 1, 1, 1, 0, 2, 2, 1, 2, 1, 1, 1, 1, 1, 1, 1, 0, 1, 3, 1, 1, 1, 1])) ?_
  obtain ⟨q, hq⟩ : ∃ q, at0 S j1 = q := ⟨_, rfl⟩
  rw [hq] at hf3
  refine tl48 _ _ q hf3 ?_
  intro f4 hf4 ht4
  show Code.wp _ (tokC [1, 1, 1, 1, 1, 0, 2, 2, 1, 2, 1, 1, 1, 1, 1, 1, 1, 1, 1, 1, 0, 2, 2, 1, 2, 1, 1, 1, 1, 1, 1, 1, 0, 1, 3, 1, 1, 1, 1]) _ _ _
  by_cases hqq : q = 34 ∨ q = 39
  · rw [decide_eq_true hqq] at ht4
    obtain ⟨hl1, hval⟩ := value_quote hsc hst hq hqq
    refine wp_cond_true (x := (tokC [1, 1, 1, 1, 1, 0, 2, 2, 1, 2, 1, 1, 1, 1, 1, 1, 1, 1, 1, 1, 0, 2, 2, 1, 2, 1, 1, 1, 1, 1, 1, 1, 0, 1, 3, 1, 1, 1, 1, 3])) (y := (tokC [1, 1, 1, 1, 1, 0, 2, 2, 1, 2, 1, 1, 1, 1, 1, 1, 1, 1, 1, 1, 0, 2, 2, 1, 2, 1, 1, 1, 1, 1, 1, 1, 0, 1, 3, 1, 1, 1, 1, 4])) ht4 ?_
    refine wp_seq (x := (tokC [1, 1, 1, 1, 1, 0, 2, 2, 1, 2, 1, 1, 1, 1, 1, 1, 1, 1, 1, 1, 0, 2, 2, 1, 2, 1, 1, 1, 1, 1, 1, 1, 0, 1, 3, 1, 1, 1, 1, 3, 0])) (y := (tokC [1, 1, 1, 1, 1, 0, 2, 2, 1, 2, 1, 1, 1, 1, 1, 1, 1, 1, 1, 1, 0, 2, 2, 1, 2, 1, 1, 1, 1, 1, 1, 1, 0, 1, 3, 1, 1, 1, 1, 3, 1])) ?_
    refine tl49 _ _ j1 q hf4 hsr hl1 hS hm ?_
    intro f5 w5 hf5 hb5
    show Code.wp _ (tokC [1, 1, 1, 1, 1, 0, 2, 2, 1, 2, 1, 1, 1, 1, 1, 1, 1, 1, 1, 1, 0, 2, 2, 1, 2, 1, 1, 1, 1, 1, 1, 1, 0, 1, 3, 1, 1, 1, 1, 3, 1]) _ _ _
    refine wp_seq (x := (tokC [1, 1, 1, 1, 1, 0, 2, 2, 1, 2, 1, 1, 1, 1, 1, 1, 1, 1, 1, 1, 0, 2, 2, 1, 2, 1, 1, 1, 1, 1, 1, 1, 0, 1, 3, 1, 1, 1, 1, 3, 1, 0])) (y := (tokC [1, 1, 1, 1, 1, 0, 2, 2, 1, 2, 1, 1, 1, 1, 1, 1, 1, 1, 1, 1, 0, 2, 2, 1, 2, 1, 1, 1, 1, 1, 1, 1, 0, 1, 3, 1, 1, 1, 1, 3, 1, 1])) ?_
    have hfl := fnd_le hl1 [q]
    obtain ⟨n, hn⟩ : ∃ n, fnd S (j1 + 1) [q] = n := ⟨_, rfl⟩
    rw [hn] at hf5 hfl hval
    refine tl50 _ _ j1 n hf5 (hsr.to hb5) hfl.1 hfl.2 hS ?_
    intro f6 hf6
    show Code.wp _ (tokC [1, 1, 1, 1, 1, 0, 2, 2, 1, 2, 1, 1, 1, 1, 1, 1, 1, 1, 1, 1, 0, 2, 2, 1, 2, 1, 1, 1, 1, 1, 1, 1, 0, 1, 3, 1, 1, 1, 1, 3, 1, 1]) _ _ _
    refine wp_seq (x := (tokC [1, 1, 1, 1, 1, 0, 2, 2, 1, 2, 1, 1, 1, 1, 1, 1, 1, 1, 1, 1, 0, 2, 2, 1, 2, 1, 1, 1, 1, 1, 1, 1, 0, 1, 3, 1, 1, 1, 1, 3, 1, 1, 0])) (y := (tokC [1, 1, 1, 1, 1, 0, 2, 2, 1, 2, 1, 1, 1, 1, 1, 1, 1, 1, 1, 1, 0, 2, 2, 1, 2, 1, 1, 1, 1, 1, 1, 1, 0, 1, 3, 1, 1, 1, 1, 3, 1, 1, 1])) ?_
    have hvl := cut_len S (j1 + 1) n
    obtain ⟨v, hv⟩ : ∃ v, (S.take n).drop (j1 + 1) = v := ⟨_, rfl⟩
    rw [hv] at hf6 hval hvl
    refine tl51 _ _ v q hf6 (by omega) ?_
    intro f7 w7 hf7 ht7 hb7
    show Code.wp _ (tokC [1, 1, 1, 1, 1, 0, 2, 2, 1, 2, 1, 1, 1, 1, 1, 1, 1, 1, 1, 1, 0, 2, 2, 1, 2, 1, 1, 1, 1, 1, 1, 1, 0, 1, 3, 1, 1, 1, 1, 3, 1, 1, 1]) _ _ _
    cases hsf : [q].isSuffixOf v with
    | true =>
      rw [hsf] at ht7
      rw [if_pos hsf] at hval
      have hv1 : 1 ≤ v.length := by
        cases v with
        | nil => simp at hsf
        | cons _ _ => simp
      refine wp_cond_true (x := (tokC [1, 1, 1, 1, 1, 0, 2, 2, 1, 2, 1, 1, 1, 1, 1, 1, 1, 1, 1, 1, 0, 2, 2, 1, 2, 1, 1, 1, 1, 1, 1, 1, 0, 1, 3, 1, 1, 1, 1, 3, 1, 1, 1, 3])) (y := (tokC [1, 1, 1, 1, 1, 0, 2, 2, 1, 2, 1, 1, 1, 1, 1, 1, 1, 1, 1, 1, 0, 2, 2, 1, 2, 1, 1, 1, 1, 1, 1, 1, 0, 1, 3, 1, 1, 1, 1, 3, 1, 1, 1, 4])) ht7 ?_
      refine tl52 _ _ v hf7 hv1 (by omega) ?_
      intro f8 hf8
      exact hp f8 w7 _ n _ _ hval hfl.2 (by omega) (by simp; omega) hf8 (btr hb5 hb7)
    | false =>
      rw [hsf] at ht7
      rw [if_neg (by rw [hsf]; simp)] at hval
      refine wp_cond_false (x := (tokC [1, 1, 1, 1, 1, 0, 2, 2, 1, 2, 1, 1, 1, 1, 1, 1, 1, 1, 1, 1, 0, 2, 2, 1, 2, 1, 1, 1, 1, 1, 1, 1, 0, 1, 3, 1, 1, 1, 1, 3, 1, 1, 1, 3])) (y := (tokC [1, 1, 1, 1, 1, 0, 2, 2, 1, 2, 1, 1, 1, 1, 1, 1, 1, 1, 1, 1, 0, 2, 2, 1, 2, 1, 1, 1, 1, 1, 1, 1, 0, 1, 3, 1, 1, 1, 1, 3, 1, 1, 1, 4])) ht7 ?_
      refine wp_skip ?_
      exact hp f7 w7 v n _ _ hval hfl.2 (by omega) (by omega) hf7 (btr hb5 hb7)
  · rw [decide_eq_false hqq] at ht4
    refine wp_cond_false (x := (tokC [1, 1, 1, 1, 1, 0, 2, 2, 1, 2, 1, 1, 1, 1, 1, 1, 1, 1, 1, 1, 0, 2, 2, 1, 2, 1, 1, 1, 1, 1, 1, 1, 0, 1, 3, 1, 1, 1, 1, 3])) (y := (tokC [1, 1, 1, 1, 1, 0, 2, 2, 1, 2, 1, 1, 1, 1, 1, 1, 1, 1, 1, 1, 0, 2, 2, 1, 2, 1, 1, 1, 1, 1, 1, 1, 0, 1, 3, 1, 1, 1, 1, 4])) ht4 ?_
    refine wp_seq (x := (tokC [1, 1, 1, 1, 1, 0, 2, 2, 1, 2, 1, 1, 1, 1, 1, 1, 1, 1, 1, 1, 0, 2, 2, 1, 2, 1, 1, 1, 1, 1, 1, 1, 0, 1, 3, 1, 1, 1, 1, 4, 0])) (y := (tokC [1, 1, 1, 1, 1, 0, 2, 2, 1, 2, 1, 1, 1, 1, 1, 1, 1, 1, 1, 1, 0, 2, 2, 1, 2, 1, 1, 1, 1, 1, 1, 1, 0, 1, 3, 1, 1, 1, 1, 4, 1])) ?_
    refine tl53 _ _ j1 hf4 ?_
    intro f5 hf5
    show Code.wp _ (tokC [1, 1, 1, 1, 1, 0, 2, 2, 1, 2, 1, 1, 1, 1, 1, 1, 1, 1, 1, 1, 0, 2, 2, 1, 2, 1, 1, 1, 1, 1, 1, 1, 0, 1, 3, 1, 1, 1, 1, 4, 1]) _ _ _
    refine wp_seq (x := (tokC [1, 1, 1, 1, 1, 0, 2, 2, 1, 2, 1, 1, 1, 1, 1, 1, 1, 1, 1, 1, 0, 2, 2, 1, 2, 1, 1, 1, 1, 1, 1, 1, 0, 1, 3, 1, 1, 1, 1, 4, 1, 0])) (y := (tokC [1, 1, 1, 1, 1, 0, 2, 2, 1, 2, 1, 1, 1, 1, 1, 1, 1, 1, 1, 1, 0, 2, 2, 1, 2, 1, 1, 1, 1, 1, 1, 1, 0, 1, 3, 1, 1, 1, 1, 4, 1, 1])) ?_
    refine wp_scan (j := 10) (fun v => [c0, ptr bb, c2, c3, .func (.func 131) #[] #[ptr bb], .func (.func 132) #[] #[ptr bb], c6, c7, c8, c9, v, c11, c12, c13, c14, c15, c16, .int .i64 j1, .int .u8 q.toNat]) nb1 (tokC [1, 1, 1, 1, 1, 0, 2, 2, 1, 2, 1, 1, 1, 1, 1, 1, 1, 1, 1, 1, 0, 2, 2, 1, 2, 1, 1, 1, 1, 1, 1, 1, 0, 1, 3, 1, 1, 1, 1, 4, 1, 0, 2, 2, 0, 0]) (tokC [1, 1, 1, 1, 1, 0, 2, 2, 1, 2, 1, 1, 1, 1, 1, 1, 1, 1, 1, 1, 0, 2, 2, 1, 2, 1, 1, 1, 1, 1, 1, 1, 0, 1, 3, 1, 1, 1, 1, 4, 1, 0, 2, 2, 1, 2]) (fun _ => rfl) (fun k' fr' Q' hk' hf' h' => tl54 Q' _ k' hf' hsr h') (fun k' fr' Q' hk' hf' h' => tl55 Q' _ k' hf' (Nat.le_of_lt hk') hS h') hf5 hj1 ?_
    intro n f6 hsc2 hjn hn hst2 hf6
    show Code.wp _ (tokC [1, 1, 1, 1, 1, 0, 2, 2, 1, 2, 1, 1, 1, 1, 1, 1, 1, 1, 1, 1, 0, 2, 2, 1, 2, 1, 1, 1, 1, 1, 1, 1, 0, 1, 3, 1, 1, 1, 1, 4, 1, 1]) _ _ _
    have hval := value_plain hsc hst (by rw [hq]; exact hqq) hsc2 hst2
    have hvl := cut_len S j1 n
    refine tl56 _ _ j1 n hf6 hsr hjn hn ?_
    intro f7 hf7
    exact hp f7 w _ n _ _ hval hn (by omega) (by omega) hf7 (brf _)
theorem tok_attrs (Q : Exit → Act → World → Prop) (w : World) {bb b0 o0 vc : Nat} {S : Bs} {fr : Array Value} {c0 c2 c3 c6 c7 c8 c9 c11 c14 c15 c16 c17 c18 : Value} (k0 : Nat) (hf : Frm 349 [c0, ptr bb, c2, c3, .func (.func 131) #[] #[ptr bb], .func (.func 132) #[] #[ptr bb], c6, c7, c8, c9, .int .i64 k0, c11, str [], .bool false, c14, c15, c16, c17, c18] fr) (hsr : Src bb b0 o0 vc S w) (hk0 : k0 ≤ S.length) (hS : S.length ≤ 20000) (hm : ∃ m, w.cell? ⟨2, 0, none⟩ = some (.int .i64 m))
    (hp : ∀ (fr' : Array Value) (w' : World) (k : Nat) (h : Bs) (z : Bool) (d14 d15 d16 d17 d18 : Value), attrT (S.drop k0) [] false = attrT (S.drop k) h z → k0 ≤ k → k ≤ S.length → (k = S.length ∨ S[k]? = some 62) → h.length ≤ 20000 → Frm 349 [c0, ptr bb, c2, c3, .func (.func 131) #[] #[ptr bb], .func (.func 132) #[] #[ptr bb], c6, c7, c8, c9, .int .i64 k, c11, str h, .bool z, d14, d15, d16, d17, d18] fr' → Below w.heap.size w w' → Q .normal ⟨fr', []⟩ w') :
    Code.wp Tryz.prog (tokC [1, 1, 1, 1, 1, 0, 2, 2, 1, 2, 1, 1, 1, 1, 1, 1, 1, 1, 1, 1, 0]) Q ⟨fr, []⟩ w := by
  refine wp_block (c := (tokC [1, 1, 1, 1, 1, 0, 2, 2, 1, 2, 1, 1, 1, 1, 1, 1, 1, 1, 1, 1, 0, 2])) ?_
  refine wp_loop (c := (tokC [1, 1, 1, 1, 1, 0, 2, 2, 1, 2, 1, 1, 1, 1, 1, 1, 1, 1, 1, 1, 0, 2, 2])) (fun a w' => a.defers = [] ∧ Below w.heap.size w w' ∧ ∃ (k : Nat) (h : Bs) (z : Bool) (d14 d15 d16 d17 d18 : Value), attrT (S.drop k0) [] false = attrT (S.drop k) h z ∧ k0 ≤ k ∧ k ≤ S.length ∧ h.length ≤ 20000 ∧ Frm 349 [c0, ptr bb, c2, c3, .func (.func 131) #[] #[ptr bb], .func (.func 132) #[] #[ptr bb], c6, c7, c8, c9, .int .i64 k, c11, str h, .bool z, d14, d15, d16, d17, d18] a.tmps) (fun a _ => S.length - (intOf (a.tmps.getD 10 undef)).toNat) ⟨rfl, brf _, k0, [], false, _, _, _, _, _, rfl, Nat.le_refl _, hk0, by simp, hf⟩ ?_
  rintro ⟨fa, df⟩ w' ⟨hd, hbw, k, h, z, d14, d15, d16, d17, d18, hat, hkk, hk, hhl, hfa⟩
  obtain rfl : df = [] := hd
  have hs := hsr.to hbw
  have hm' := someT hm hbw
  have hmk : ∀ (fx : Array Value) (v : Value) (n : Nat) {s : List Value}, Frm 349 s fx → s[10]? = some (.int .i64 n) → k < n → n ≤ S.length → S.length - (intOf (fx.getD 10 undef)).toNat < S.length - (intOf (fa.getD 10 undef)).toNat := by
    intro fx v n s hfx hs10 h1 h2
    rw [hfx.get hs10, hfa.get rfl]
    simp only [intOf]
    omega
  refine wp_seq (x := (tokC [1, 1, 1, 1, 1, 0, 2, 2, 1, 2, 1, 1, 1, 1, 1, 1, 1, 1, 1, 1, 0, 2, 2, 0])) (y := (tokC [1, 1, 1, 1, 1, 0, 2, 2, 1, 2, 1, 1, 1, 1, 1, 1, 1, 1, 1, 1, 0, 2, 2, 1])) ?_
  refine wp_seq (x := (tokC [1, 1, 1, 1, 1, 0, 2, 2, 1, 2, 1, 1, 1, 1, 1, 1, 1, 1, 1, 1, 0, 2, 2, 0, 0])) (y := (tokC [1, 1, 1, 1, 1, 0, 2, 2, 1, 2, 1, 1, 1, 1, 1, 1, 1, 1, 1, 1, 0, 2, 2, 0, 1])) ?_
  refine tl32 _ _ k hfa hs ?_
  intro f1 hf1 ht1
  show Code.wp _ (tokC [1, 1, 1, 1, 1, 0, 2, 2, 1, 2, 1, 1, 1, 1, 1, 1, 1, 1, 1, 1, 0, 2, 2, 0, 1]) _ _ _
  cases hb : tst n62 S k with
  | false =>
    rw [hb] at ht1
    refine wp_cond_false (x := (tokC [1, 1, 1, 1, 1, 0, 2, 2, 1, 2, 1, 1, 1, 1, 1, 1, 1, 1, 1, 1, 0, 2, 2, 0, 1, 3])) (y := (tokC [1, 1, 1, 1, 1, 0, 2, 2, 1, 2, 1, 1, 1, 1, 1, 1, 1, 1, 1, 1, 0, 2, 2, 0, 1, 4])) ht1 ?_
    refine wp_exit ?_
    refine hp f1 w' k h z _ _ _ _ _ hat hkk hk ?_ hhl hf1 hbw
    rcases tst_stop hk hb with h1 | ⟨d, h1, h2⟩
    · exact Or.inl h1
    · right
      rw [h1, show d = 62 by simpa [n62] using h2]
  | true =>
    rw [hb] at ht1
    obtain ⟨d, hd, h62⟩ : ∃ d, S[k]? = some d ∧ d ≠ 62 := by
      cases hd : S[k]? with
      | none => unfold tst at hb; rw [hd] at hb; cases hb
      | some d => exact ⟨d, rfl, by rw [tst_in _ hd] at hb; simpa [n62] using hb⟩
    have hkl : k < S.length := (List.getElem?_eq_some_iff.1 hd).1
    refine wp_cond_true (x := (tokC [1, 1, 1, 1, 1, 0, 2, 2, 1, 2, 1, 1, 1, 1, 1, 1, 1, 1, 1, 1, 0, 2, 2, 0, 1, 3])) (y := (tokC [1, 1, 1, 1, 1, 0, 2, 2, 1, 2, 1, 1, 1, 1, 1, 1, 1, 1, 1, 1, 0, 2, 2, 0, 1, 4])) ht1 ?_
    refine wp_skip ?_
    show Code.wp _ (tokC [1, 1, 1, 1, 1, 0, 2, 2, 1, 2, 1, 1, 1, 1, 1, 1, 1, 1, 1, 1, 0, 2, 2, 1]) _ _ _
    refine wp_block (c := (tokC [1, 1, 1, 1, 1, 0, 2, 2, 1, 2, 1, 1, 1, 1, 1, 1, 1, 1, 1, 1, 0, 2, 2, 1, 2])) ?_
    refine wp_seq (x := (tokC [1, 1, 1, 1, 1, 0, 2, 2, 1, 2, 1, 1, 1, 1, 1, 1, 1, 1, 1, 1, 0, 2, 2, 1, 2, 0])) (y := (tokC [1, 1, 1, 1, 1, 0, 2, 2, 1, 2, 1, 1, 1, 1, 1, 1, 1, 1, 1, 1, 0, 2, 2, 1, 2, 1])) ?_
    refine wp_seq (x := (tokC [1, 1, 1, 1, 1, 0, 2, 2, 1, 2, 1, 1, 1, 1, 1, 1, 1, 1, 1, 1, 0, 2, 2, 1, 2, 0, 0])) (y := (tokC [1, 1, 1, 1, 1, 0, 2, 2, 1, 2, 1, 1, 1, 1, 1, 1, 1, 1, 1, 1, 0, 2, 2, 1, 2, 0, 1])) ?_
    refine tl33 _ _ k hf1 hs d hd ?_
    intro f2 hf2 ht2
    show Code.wp _ (tokC [1, 1, 1, 1, 1, 0, 2, 2, 1, 2, 1, 1, 1, 1, 1, 1, 1, 1, 1, 1, 0, 2, 2, 1, 2, 0, 1]) _ _ _
    cases hsk : sk2 d with
    | true =>
      rw [hsk] at ht2
      refine wp_cond_true (x := (tokC [1, 1, 1, 1, 1, 0, 2, 2, 1, 2, 1, 1, 1, 1, 1, 1, 1, 1, 1, 1, 0, 2, 2, 1, 2, 0, 1, 3])) (y := (tokC [1, 1, 1, 1, 1, 0, 2, 2, 1, 2, 1, 1, 1, 1, 1, 1, 1, 1, 1, 1, 0, 2, 2, 1, 2, 0, 1, 4])) ht2 ?_
      refine wp_seq (x := (tokC [1, 1, 1, 1, 1, 0, 2, 2, 1, 2, 1, 1, 1, 1, 1, 1, 1, 1, 1, 1, 0, 2, 2, 1, 2, 0, 1, 3, 0])) (y := (tokC [1, 1, 1, 1, 1, 0, 2, 2, 1, 2, 1, 1, 1, 1, 1, 1, 1, 1, 1, 1, 0, 2, 2, 1, 2, 0, 1, 3, 1])) ?_
      refine tl34 _ _ k hf2 hk hS ?_
      intro f3 hf3
      show Code.wp _ (tokC [1, 1, 1, 1, 1, 0, 2, 2, 1, 2, 1, 1, 1, 1, 1, 1, 1, 1, 1, 1, 0, 2, 2, 1, 2, 0, 1, 3, 1]) _ _ _
      refine wp_exit ?_
      exact ⟨⟨rfl, hbw, k + 1, h, z, _, _, _, _, _, by rw [hat, attr_skip hd hsk], by omega, hkl, hhl, hf3⟩, hmk f3 undef (k + 1) hf3 rfl (by omega) hkl⟩
    | false =>
      rw [hsk] at ht2
      refine wp_cond_false (x := (tokC [1, 1, 1, 1, 1, 0, 2, 2, 1, 2, 1, 1, 1, 1, 1, 1, 1, 1, 1, 1, 0, 2, 2, 1, 2, 0, 1, 3])) (y := (tokC [1, 1, 1, 1, 1, 0, 2, 2, 1, 2, 1, 1, 1, 1, 1, 1, 1, 1, 1, 1, 0, 2, 2, 1, 2, 0, 1, 4])) ht2 ?_
      refine wp_skip ?_
      show Code.wp _ (tokC [1, 1, 1, 1, 1, 0, 2, 2, 1, 2, 1, 1, 1, 1, 1, 1, 1, 1, 1, 1, 0, 2, 2, 1, 2, 1]) _ _ _
      refine wp_seq (x := (tokC [1, 1, 1, 1, 1, 0, 2, 2, 1, 2, 1, 1, 1, 1, 1, 1, 1, 1, 1, 1, 0, 2, 2, 1, 2, 1, 0])) (y := (tokC [1, 1, 1, 1, 1, 0, 2, 2, 1, 2, 1, 1, 1, 1, 1, 1, 1, 1, 1, 1, 0, 2, 2, 1, 2, 1, 1])) ?_
      refine tl35 _ _ k hf2 ?_
      intro f3 hf3
      show Code.wp _ (tokC [1, 1, 1, 1, 1, 0, 2, 2, 1, 2, 1, 1, 1, 1, 1, 1, 1, 1, 1, 1, 0, 2, 2, 1, 2, 1, 1]) _ _ _
      refine wp_seq (x := (tokC [1, 1, 1, 1, 1, 0, 2, 2, 1, 2, 1, 1, 1, 1, 1, 1, 1, 1, 1, 1, 0, 2, 2, 1, 2, 1, 1, 0])) (y := (tokC [1, 1, 1, 1, 1, 0, 2, 2, 1, 2, 1, 1, 1, 1, 1, 1, 1, 1, 1, 1, 0, 2, 2, 1, 2, 1, 1, 1])) ?_
      refine tl36 _ _ k hf3 hk hS ?_
      intro f4 hf4
      show Code.wp _ (tokC [1, 1, 1, 1, 1, 0, 2, 2, 1, 2, 1, 1, 1, 1, 1, 1, 1, 1, 1, 1, 0, 2, 2, 1, 2, 1, 1, 1]) _ _ _
      refine wp_seq (x := (tokC [1, 1, 1, 1, 1, 0, 2, 2, 1, 2, 1, 1, 1, 1, 1, 1, 1, 1, 1, 1, 0, 2, 2, 1, 2, 1, 1, 1, 0])) (y := (tokC [1, 1, 1, 1, 1, 0, 2, 2, 1, 2, 1, 1, 1, 1, 1, 1, 1, 1, 1, 1, 0, 2, 2, 1, 2, 1, 1, 1, 1])) ?_
      refine wp_scan (j := 10) (fun v => [c0, ptr bb, c2, c3, .func (.func 131) #[] #[ptr bb], .func (.func 132) #[] #[ptr bb], c6, c7, c8, c9, v, c11, str h, .bool z, .int .i64 k, d15, d16, d17, d18]) nb3 (tokC [1, 1, 1, 1, 1, 0, 2, 2, 1, 2, 1, 1, 1, 1, 1, 1, 1, 1, 1, 1, 0, 2, 2, 1, 2, 1, 1, 1, 0, 2, 2, 0, 0]) (tokC [1, 1, 1, 1, 1, 0, 2, 2, 1, 2, 1, 1, 1, 1, 1, 1, 1, 1, 1, 1, 0, 2, 2, 1, 2, 1, 1, 1, 0, 2, 2, 1, 2]) (fun _ => rfl) (fun k' fr' Q' hk' hf' h' => tl37 Q' _ k' hf' hs h') (fun k' fr' Q' hk' hf' h' => tl38 Q' _ k' hf' (Nat.le_of_lt hk') hS h') hf4 hkl ?_
      intro k2 f5 hsc hkk2 hk2 hst hf5
      show Code.wp _ (tokC [1, 1, 1, 1, 1, 0, 2, 2, 1, 2, 1, 1, 1, 1, 1, 1, 1, 1, 1, 1, 0, 2, 2, 1, 2, 1, 1, 1, 1]) _ _ _
      refine wp_seq (x := (tokC [1, 1, 1, 1, 1, 0, 2, 2, 1, 2, 1, 1, 1, 1, 1, 1, 1, 1, 1, 1, 0, 2, 2, 1, 2, 1, 1, 1, 1, 0])) (y := (tokC [1, 1, 1, 1, 1, 0, 2, 2, 1, 2, 1, 1, 1, 1, 1, 1, 1, 1, 1, 1, 0, 2, 2, 1, 2, 1, 1, 1, 1, 1])) ?_
      refine tl39 _ _ k k2 hf5 hs hkl (by omega) hk2 hS ?_
      intro f6 w6 hf6 hb6
      show Code.wp _ (tokC [1, 1, 1, 1, 1, 0, 2, 2, 1, 2, 1, 1, 1, 1, 1, 1, 1, 1, 1, 1, 0, 2, 2, 1, 2, 1, 1, 1, 1, 1]) _ _ _
      refine wp_seq (x := (tokC [1, 1, 1, 1, 1, 0, 2, 2, 1, 2, 1, 1, 1, 1, 1, 1, 1, 1, 1, 1, 0, 2, 2, 1, 2, 1, 1, 1, 1, 1, 0])) (y := (tokC [1, 1, 1, 1, 1, 0, 2, 2, 1, 2, 1, 1, 1, 1, 1, 1, 1, 1, 1, 1, 0, 2, 2, 1, 2, 1, 1, 1, 1, 1, 1])) ?_
      have hs6 := hs.to hb6
      have hm6 := someT hm' hb6
      obtain ⟨nm, hnm⟩ : ∃ nm, lower ((S.take k2).drop k) = nm := ⟨_, rfl⟩
      rw [hnm] at hf6
      refine tl40 _ _ k2 hf6 ?_
      intro f7 hf7
      show Code.wp _ (tokC [1, 1, 1, 1, 1, 0, 2, 2, 1, 2, 1, 1, 1, 1, 1, 1, 1, 1, 1, 1, 0, 2, 2, 1, 2, 1, 1, 1, 1, 1, 1]) _ _ _
      refine wp_seq (x := (tokC [1, 1, 1, 1, 1, 0, 2, 2, 1, 2, 1, 1, 1, 1, 1, 1, 1, 1, 1, 1, 0, 2, 2, 1, 2, 1, 1, 1, 1, 1, 1, 0])) (y := (tokC [1, 1, 1, 1, 1, 0, 2, 2, 1, 2, 1, 1, 1, 1, 1, 1, 1, 1, 1, 1, 0, 2, 2, 1, 2, 1, 1, 1, 1, 1, 1, 1])) ?_
      refine wp_scan (j := 17) (fun v => [c0, ptr bb, c2, c3, .func (.func 131) #[] #[ptr bb], .func (.func 132) #[] #[ptr bb], c6, c7, c8, c9, .int .i64 k2, c11, str h, .bool z, .int .i64 k, str nm, str [], v, d18]) isSp (tokC [1, 1, 1, 1, 1, 0, 2, 2, 1, 2, 1, 1, 1, 1, 1, 1, 1, 1, 1, 1, 0, 2, 2, 1, 2, 1, 1, 1, 1, 1, 1, 0, 2, 2, 0, 0]) (tokC [1, 1, 1, 1, 1, 0, 2, 2, 1, 2, 1, 1, 1, 1, 1, 1, 1, 1, 1, 1, 0, 2, 2, 1, 2, 1, 1, 1, 1, 1, 1, 0, 2, 2, 1, 2]) (fun _ => rfl) (fun k' fr' Q' hk' hf' h' => tl41 Q' _ k' hf' hs6 h') (fun k' fr' Q' hk' hf' h' => tl42 Q' _ k' hf' (Nat.le_of_lt hk') hS h') hf7 hk2 ?_
      intro j f8 hscj hk2j hj hstj hf8
      show Code.wp _ (tokC [1, 1, 1, 1, 1, 0, 2, 2, 1, 2, 1, 1, 1, 1, 1, 1, 1, 1, 1, 1, 0, 2, 2, 1, 2, 1, 1, 1, 1, 1, 1, 1]) _ _ _
      refine wp_seq (x := (tokC [1, 1, 1, 1, 1, 0, 2, 2, 1, 2, 1, 1, 1, 1, 1, 1, 1, 1, 1, 1, 0, 2, 2, 1, 2, 1, 1, 1, 1, 1, 1, 1, 0])) (y := (tokC [1, 1, 1, 1, 1, 0, 2, 2, 1, 2, 1, 1, 1, 1, 1, 1, 1, 1, 1, 1, 0, 2, 2, 1, 2, 1, 1, 1, 1, 1, 1, 1, 1])) ?_
      refine wp_seq (x := (tokC [1, 1, 1, 1, 1, 0, 2, 2, 1, 2, 1, 1, 1, 1, 1, 1, 1, 1, 1, 1, 0, 2, 2, 1, 2, 1, 1, 1, 1, 1, 1, 1, 0, 0])) (y := (tokC [1, 1, 1, 1, 1, 0, 2, 2, 1, 2, 1, 1, 1, 1, 1, 1, 1, 1, 1, 1, 0, 2, 2, 1, 2, 1, 1, 1, 1, 1, 1, 1, 0, 1])) ?_
      have hfin : ∀ (fx : Array Value) (wx : World) (v : Bs) (e : Nat) (x17 x18 : Value), Go.Mh.valOf (S.drop k2) = (v, S.drop e) → e ≤ S.length → k2 ≤ e → v.length ≤ 20000 → Frm 349 [c0, ptr bb, c2, c3, .func (.func 131) #[] #[ptr bb], .func (.func 132) #[] #[ptr bb], c6, c7, c8, c9, .int .i64 e, c11, str h, .bool z, .int .i64 k, str nm, str v, x17, x18] fx → Below w.heap.size w wx → Code.wp Tryz.prog (tokC [1, 1, 1, 1, 1, 0, 2, 2, 1, 2, 1, 1, 1, 1, 1, 1, 1, 1, 1, 1, 0, 2, 2, 1, 2, 1, 1, 1, 1, 1, 1, 1, 1]) (Exit.inBlock 8 (Exit.then (fun a w'' => (a.defers = [] ∧ Below w.heap.size w w'' ∧ ∃ (k : Nat) (h : Bs) (z : Bool) (d14 d15 d16 d17 d18 : Value), attrT (S.drop k0) [] false = attrT (S.drop k) h z ∧ k0 ≤ k ∧ k ≤ S.length ∧ h.length ≤ 20000 ∧ Frm 349 [c0, ptr bb, c2, c3, .func (.func 131) #[] #[ptr bb], .func (.func 132) #[] #[ptr bb], c6, c7, c8, c9, .int .i64 k, c11, str h, .bool z, d14, d15, d16, d17, d18] a.tmps) ∧ S.length - (intOf (a.tmps.getD 10 undef)).toNat < S.length - (intOf (fa.getD 10 undef)).toNat) (Exit.inBlock 7 Q))) ⟨fx, []⟩ wx := by
        intro fx wx v e x17 x18 hval he hke hvl hfx hbx
        have hone := attr_one hd hsk h62 hsc hst hval h z
        rw [hnm] at hone
        refine wp_seq (x := (tokC [1, 1, 1, 1, 1, 0, 2, 2, 1, 2, 1, 1, 1, 1, 1, 1, 1, 1, 1, 1, 0, 2, 2, 1, 2, 1, 1, 1, 1, 1, 1, 1, 1, 0])) (y := (tokC [1, 1, 1, 1, 1, 0, 2, 2, 1, 2, 1, 1, 1, 1, 1, 1, 1, 1, 1, 1, 0, 2, 2, 1, 2, 1, 1, 1, 1, 1, 1, 1, 1, 1])) ?_
        refine tl57 _ _ nm z hfx ?_
        intro f9 hf9 ht9
        show Code.wp _ (tokC [1, 1, 1, 1, 1, 0, 2, 2, 1, 2, 1, 1, 1, 1, 1, 1, 1, 1, 1, 1, 0, 2, 2, 1, 2, 1, 1, 1, 1, 1, 1, 1, 1, 1]) _ _ _
        by_cases hc : nm = sHref ∧ z = false
        · rw [decide_eq_true hc] at ht9
          rw [if_pos hc, if_pos hc] at hone
          refine wp_cond_true (x := (tokC [1, 1, 1, 1, 1, 0, 2, 2, 1, 2, 1, 1, 1, 1, 1, 1, 1, 1, 1, 1, 0, 2, 2, 1, 2, 1, 1, 1, 1, 1, 1, 1, 1, 1, 3])) (y := (tokC [1, 1, 1, 1, 1, 0, 2, 2, 1, 2, 1, 1, 1, 1, 1, 1, 1, 1, 1, 1, 0, 2, 2, 1, 2, 1, 1, 1, 1, 1, 1, 1, 1, 1, 4])) ht9 ?_
          refine tl58 _ _ v hf9 ?_
          intro f10 hf10
          exact ⟨⟨rfl, hbx, e, v, true, _, _, _, _, _, hat.trans hone, by omega, he, hvl, hf10⟩, hmk f10 undef e hf10 rfl (by omega) he⟩
        · rw [decide_eq_false hc] at ht9
          rw [if_neg hc, if_neg hc] at hone
          refine wp_cond_false (x := (tokC [1, 1, 1, 1, 1, 0, 2, 2, 1, 2, 1, 1, 1, 1, 1, 1, 1, 1, 1, 1, 0, 2, 2, 1, 2, 1, 1, 1, 1, 1, 1, 1, 1, 1, 3])) (y := (tokC [1, 1, 1, 1, 1, 0, 2, 2, 1, 2, 1, 1, 1, 1, 1, 1, 1, 1, 1, 1, 0, 2, 2, 1, 2, 1, 1, 1, 1, 1, 1, 1, 1, 1, 4])) ht9 ?_
          refine wp_skip ?_
          exact ⟨⟨rfl, hbx, e, h, z, _, _, _, _, _, hat.trans hone, by omega, he, hhl, hf9⟩, hmk f9 undef e hf9 rfl (by omega) he⟩
      refine tl43 _ _ j hf8 hs6 ?_
      intro f9 hf9 ht9
      show Code.wp _ (tokC [1, 1, 1, 1, 1, 0, 2, 2, 1, 2, 1, 1, 1, 1, 1, 1, 1, 1, 1, 1, 0, 2, 2, 1, 2, 1, 1, 1, 1, 1, 1, 1, 0, 1]) _ _ _
      by_cases h61 : at0 S j = 61
      · rw [show (at0 S j == 61) = true by rw [h61]; rfl] at ht9
        obtain ⟨hvs, hj61⟩ := val_some hscj hstj h61
        have hjl : j < S.length := (List.getElem?_eq_some_iff.1 hj61).1
        refine wp_cond_true (x := (tokC [1, 1, 1, 1, 1, 0, 2, 2, 1, 2, 1, 1, 1, 1, 1, 1, 1, 1, 1, 1, 0, 2, 2, 1, 2, 1, 1, 1, 1, 1, 1, 1, 0, 1, 3])) (y := (tokC [1, 1, 1, 1, 1, 0, 2, 2, 1, 2, 1, 1, 1, 1, 1, 1, 1, 1, 1, 1, 0, 2, 2, 1, 2, 1, 1, 1, 1, 1, 1, 1, 0, 1, 4])) ht9 ?_
        refine tok_value _ _ j k2 hf9 hs6 hjl hS hm6 ?_
        intro fx wx v e x17 x18 hval he hje hvl hfx hbx
        exact hfin fx wx v e x17 x18 (by rw [hvs, hval]) he (by omega) hvl hfx (btr hbw (btr hb6 hbx))
      · rw [show (at0 S j == 61) = false by simpa using h61] at ht9
        refine wp_cond_false (x := (tokC [1, 1, 1, 1, 1, 0, 2, 2, 1, 2, 1, 1, 1, 1, 1, 1, 1, 1, 1, 1, 0, 2, 2, 1, 2, 1, 1, 1, 1, 1, 1, 1, 0, 1, 3])) (y := (tokC [1, 1, 1, 1, 1, 0, 2, 2, 1, 2, 1, 1, 1, 1, 1, 1, 1, 1, 1, 1, 0, 2, 2, 1, 2, 1, 1, 1, 1, 1, 1, 1, 0, 1, 4])) ht9 (wp_skip ?_)
        exact hfin f9 w6 [] k2 _ _ (val_none hscj hstj h61) hk2 (Nat.le_refl _) (by simp) hf9 (btr hbw hb6)
/-- The frame at a round's head: the tokens so far, the place. -/
def TF (bb : Nat) (v3 v6 : Value) (fr : Array Value) : Prop := ∃ c0 c2 c7 c8 c9 c10 c11 c12 c13 c14 c15 c16 c17 c18 : Value, Frm 349 [c0, ptr bb, c2, v3, .func (.func 131) #[] #[ptr bb], .func (.func 132) #[] #[ptr bb], v6, c7, c8, c9, c10, c11, c12, c13, c14, c15, c16, c17, c18] fr
structure TI (bb b0 o0 vc : Nat) (w0 : World) (S : Bs) (out : List Tok) (i : Nat) (oa : Option Addr) (oc : Nat) (fr : Array Value) (w : World) : Prop where
  frm : TF bb (.slice oa out.length oc) (.int .i64 i) fr
  hi : i ≤ S.length
  ho : out.length ≤ i
  pg : pageT S = out ++ pageT (S.drop i)
  own : OwnT (bb + 1) w (.slice oa out.length oc) out
  src : Src bb b0 o0 vc S w
  bel : Below bb w0 w
  siz : bb + 1 ≤ w.heap.size
/-- The next round's head. -/
def TN (bb b0 o0 vc : Nat) (w0 : World) (S : Bs) (i : Nat) (fr : Array Value) (w : World) : Prop := ∃ (out : List Tok) (n : Nat) (oa : Option Addr) (oc : Nat), i < n ∧ TI bb b0 o0 vc w0 S out n oa oc fr w
theorem tok_tag (Q : Exit → Act → World → Prop) (w0 w : World) {bb b0 o0 vc : Nat} {S : Bs} {fr : Array Value} {c0 c2 c7 c10 c11 c12 c13 c14 c15 c16 c17 c18 : Value} (i st : Nat) (z : Bool) (out : List Tok) (oa : Option Addr) (oc : Nat) (hf : Frm 349 [c0, ptr bb, c2, .slice oa out.length oc, .func (.func 131) #[] #[ptr bb], .func (.func 132) #[] #[ptr bb], .int .i64 i, c7, .int .i64 st, .bool z, c10, c11, c12, c13, c14, c15, c16, c17, c18] fr) (hi : i < st) (hstl : st < S.length) (hsr : Src bb b0 o0 vc S w) (hS : S.length ≤ 20000) (hm : ∃ m, w.cell? ⟨2, 0, none⟩ = some (.int .i64 m)) (hown : OwnT (bb + 1) w (.slice oa out.length oc) out) (hB : bb + 1 ≤ w.heap.size) (hb0 : b0 < bb + 1) (ho : out.length ≤ i) (hpg : pageT S = out ++ pageT (S.drop i)) (hbel : Below bb w0 w)
    (hmk : pageT (S.drop i) = match tagT (S.drop st) with
      | none => []
      | some (name, hr, r) => (if z = true then ⟨3, name, [], []⟩ else ⟨2, name, [], readE hr⟩) :: pageT r)
    (hret : ∀ (fr' : Array Value) (w' : World) (out : List Tok) (oa : Option Addr) (oc : Nat), pageT S = out → fr'.getD 2 undef = .slice oa out.length oc → OwnT (bb + 1) w' (.slice oa out.length oc) out → Below bb w0 w' → Q .ret ⟨fr', []⟩ w')
    (hn : ∀ (fr' : Array Value) (w' : World), TN bb b0 o0 vc w0 S i fr' w' → Q .normal ⟨fr', []⟩ w') :
    Code.wp Tryz.prog (tokC [1, 1, 1, 1, 1, 0, 2, 2, 1, 2, 1, 1, 1, 1, 1]) Q ⟨fr, []⟩ w := by
  refine wp_seq (x := (tokC [1, 1, 1, 1, 1, 0, 2, 2, 1, 2, 1, 1, 1, 1, 1, 0])) (y := (tokC [1, 1, 1, 1, 1, 0, 2, 2, 1, 2, 1, 1, 1, 1, 1, 1])) ?_
  refine tl25 _ _ st hf ?_
  intro f1 hf1
  show Code.wp _ (tokC [1, 1, 1, 1, 1, 0, 2, 2, 1, 2, 1, 1, 1, 1, 1, 1]) _ _ _
  refine wp_seq (x := (tokC [1, 1, 1, 1, 1, 0, 2, 2, 1, 2, 1, 1, 1, 1, 1, 1, 0])) (y := (tokC [1, 1, 1, 1, 1, 0, 2, 2, 1, 2, 1, 1, 1, 1, 1, 1, 1])) ?_
  refine wp_scan (j := 10) (fun v => [c0, ptr bb, c2, .slice oa out.length oc, .func (.func 131) #[] #[ptr bb], .func (.func 132) #[] #[ptr bb], .int .i64 i, c7, .int .i64 st, .bool z, v, c11, c12, c13, c14, c15, c16, c17, c18]) nb2 (tokC [1, 1, 1, 1, 1, 0, 2, 2, 1, 2, 1, 1, 1, 1, 1, 1, 0, 2, 2, 0, 0]) (tokC [1, 1, 1, 1, 1, 0, 2, 2, 1, 2, 1, 1, 1, 1, 1, 1, 0, 2, 2, 1, 2]) (fun _ => rfl) (fun k' fr' Q' hk' hf' h' => tl26 Q' _ k' hf' hsr h') (fun k' fr' Q' hk' hf' h' => tl27 Q' _ k' hf' (Nat.le_of_lt hk') hS h') hf1 (Nat.le_of_lt hstl) ?_
  intro k0 f2 hsc hsk hk0 hst0 hf2
  show Code.wp _ (tokC [1, 1, 1, 1, 1, 0, 2, 2, 1, 2, 1, 1, 1, 1, 1, 1, 1]) _ _ _
  refine wp_seq (x := (tokC [1, 1, 1, 1, 1, 0, 2, 2, 1, 2, 1, 1, 1, 1, 1, 1, 1, 0])) (y := (tokC [1, 1, 1, 1, 1, 0, 2, 2, 1, 2, 1, 1, 1, 1, 1, 1, 1, 1])) ?_
  refine tl28 _ _ st k0 hf2 hsr hstl hsk hk0 hS ?_
  intro f3 w3 bt hf3 hbt hT hb3
  show Code.wp _ (tokC [1, 1, 1, 1, 1, 0, 2, 2, 1, 2, 1, 1, 1, 1, 1, 1, 1, 1]) _ _ _
  refine wp_seq (x := (tokC [1, 1, 1, 1, 1, 0, 2, 2, 1, 2, 1, 1, 1, 1, 1, 1, 1, 1, 0])) (y := (tokC [1, 1, 1, 1, 1, 0, 2, 2, 1, 2, 1, 1, 1, 1, 1, 1, 1, 1, 1])) ?_
  refine wp_seq (x := (tokC [1, 1, 1, 1, 1, 0, 2, 2, 1, 2, 1, 1, 1, 1, 1, 1, 1, 1, 0, 0])) (y := (tokC [1, 1, 1, 1, 1, 0, 2, 2, 1, 2, 1, 1, 1, 1, 1, 1, 1, 1, 0, 1])) ?_
  obtain ⟨nm, hnm⟩ : ∃ nm, lower ((S.take k0).drop st) = nm := ⟨_, rfl⟩
  rw [hnm] at hT
  have htag := tag_of hsc hst0
  rw [hnm] at htag
  refine tl29 _ _ z hf3 ?_
  intro f4 hf4 ht4
  show Code.wp _ (tokC [1, 1, 1, 1, 1, 0, 2, 2, 1, 2, 1, 1, 1, 1, 1, 1, 1, 1, 0, 1]) _ _ _
  have hfin : ∀ (fx : Array Value) (wx : World) (kd : Int), kd = (if z = true then 3 else 2) → Frm 349 [c0, ptr bb, c2, .slice oa out.length oc, .func (.func 131) #[] #[ptr bb], .func (.func 132) #[] #[ptr bb], .int .i64 i, c7, .int .i64 st, .bool z, .int .i64 k0, ptr bt, c12, c13, c14, c15, c16, c17, c18] fx → wx.heap[bt]? = some (.cells #[.int .i64 kd, str nm, str [], str []] 115 (0, 0)) → Below w.heap.size w wx → Code.wp Tryz.prog (tokC [1, 1, 1, 1, 1, 0, 2, 2, 1, 2, 1, 1, 1, 1, 1, 1, 1, 1, 1]) Q ⟨fx, []⟩ wx := by
    intro fx wx kd hkd hfx hTx hbx
    refine wp_seq (x := (tokC [1, 1, 1, 1, 1, 0, 2, 2, 1, 2, 1, 1, 1, 1, 1, 1, 1, 1, 1, 0])) (y := (tokC [1, 1, 1, 1, 1, 0, 2, 2, 1, 2, 1, 1, 1, 1, 1, 1, 1, 1, 1, 1])) ?_
    refine tl31 _ _ hfx ?_
    intro f6 hf6
    show Code.wp _ (tokC [1, 1, 1, 1, 1, 0, 2, 2, 1, 2, 1, 1, 1, 1, 1, 1, 1, 1, 1, 1]) _ _ _
    refine wp_seq (x := (tokC [1, 1, 1, 1, 1, 0, 2, 2, 1, 2, 1, 1, 1, 1, 1, 1, 1, 1, 1, 1, 0])) (y := (tokC [1, 1, 1, 1, 1, 0, 2, 2, 1, 2, 1, 1, 1, 1, 1, 1, 1, 1, 1, 1, 1])) ?_
    have hsx := hsr.to hbx
    have hmx := someT hm hbx
    have hltx : bt < wx.heap.size := lt_of_heap hTx
    refine tok_attrs _ _ k0 hf6 hsx hk0 hS hmx ?_
    intro f7 w7 k hr z2 d14 d15 d16 d17 d18 hat hkk hk hst7 hhl hf7 hb7
    show Code.wp _ (tokC [1, 1, 1, 1, 1, 0, 2, 2, 1, 2, 1, 1, 1, 1, 1, 1, 1, 1, 1, 1, 1]) _ _ _
    refine wp_seq (x := (tokC [1, 1, 1, 1, 1, 0, 2, 2, 1, 2, 1, 1, 1, 1, 1, 1, 1, 1, 1, 1, 1, 0])) (y := (tokC [1, 1, 1, 1, 1, 0, 2, 2, 1, 2, 1, 1, 1, 1, 1, 1, 1, 1, 1, 1, 1, 1])) ?_
    refine wp_seq (x := (tokC [1, 1, 1, 1, 1, 0, 2, 2, 1, 2, 1, 1, 1, 1, 1, 1, 1, 1, 1, 1, 1, 0, 0])) (y := (tokC [1, 1, 1, 1, 1, 0, 2, 2, 1, 2, 1, 1, 1, 1, 1, 1, 1, 1, 1, 1, 1, 0, 1])) ?_
    have hbw7 : Below w.heap.size w w7 := btr hbx hb7
    have hs7 := hsr.to hbw7
    have hT7 := (hb7.block bt hltx).trans hTx
    have hlt7 : bt < w7.heap.size := lt_of_heap hT7
    have hO7 := own_tok hown hbw7
    have hBw : bb ≤ w.heap.size := by omega
    have hbel7 : Below bb w0 w7 := hbel.trans (hbw7.mono hBw)
    rw [hat] at htag
    refine tl59 _ _ k hf7 hs7 ?_
    intro f8 hf8 ht8
    show Code.wp _ (tokC [1, 1, 1, 1, 1, 0, 2, 2, 1, 2, 1, 1, 1, 1, 1, 1, 1, 1, 1, 1, 1, 0, 1]) _ _ _
    by_cases hkl : S.length ≤ k
    · rw [decide_eq_true hkl] at ht8
      refine wp_cond_true (x := (tokC [1, 1, 1, 1, 1, 0, 2, 2, 1, 2, 1, 1, 1, 1, 1, 1, 1, 1, 1, 1, 1, 0, 1, 3])) (y := (tokC [1, 1, 1, 1, 1, 0, 2, 2, 1, 2, 1, 1, 1, 1, 1, 1, 1, 1, 1, 1, 1, 0, 1, 4])) ht8 ?_
      refine wp_seq (x := (tokC [1, 1, 1, 1, 1, 0, 2, 2, 1, 2, 1, 1, 1, 1, 1, 1, 1, 1, 1, 1, 1, 0, 1, 3, 0])) (y := (tokC [1, 1, 1, 1, 1, 0, 2, 2, 1, 2, 1, 1, 1, 1, 1, 1, 1, 1, 1, 1, 1, 0, 1, 3, 1])) ?_
      refine tl60 _ _ _ hf8 ?_
      intro f9 hf9
      show Code.wp _ (tokC [1, 1, 1, 1, 1, 0, 2, 2, 1, 2, 1, 1, 1, 1, 1, 1, 1, 1, 1, 1, 1, 0, 1, 3, 1]) _ _ _
      refine wp_ret ?_
      refine hret f9 w7 out oa oc ?_ (hf9.get rfl) hO7 hbel7
      rw [hpg, hmk, htag, List.drop_eq_nil_of_le hkl, attr_nil]
      simp
    · rw [decide_eq_false hkl] at ht8
      have h62 : S[k]? = some 62 := by
        rcases hst7 with h | h
        · omega
        · exact h
      rw [attr_end h62] at htag
      rw [htag] at hmk
      refine wp_cond_false (x := (tokC [1, 1, 1, 1, 1, 0, 2, 2, 1, 2, 1, 1, 1, 1, 1, 1, 1, 1, 1, 1, 1, 0, 1, 3])) (y := (tokC [1, 1, 1, 1, 1, 0, 2, 2, 1, 2, 1, 1, 1, 1, 1, 1, 1, 1, 1, 1, 1, 0, 1, 4])) ht8 ?_
      refine wp_skip ?_
      show Code.wp _ (tokC [1, 1, 1, 1, 1, 0, 2, 2, 1, 2, 1, 1, 1, 1, 1, 1, 1, 1, 1, 1, 1, 1]) _ _ _
      refine wp_seq (x := (tokC [1, 1, 1, 1, 1, 0, 2, 2, 1, 2, 1, 1, 1, 1, 1, 1, 1, 1, 1, 1, 1, 1, 0])) (y := (tokC [1, 1, 1, 1, 1, 0, 2, 2, 1, 2, 1, 1, 1, 1, 1, 1, 1, 1, 1, 1, 1, 1, 1])) ?_
      refine wp_seq (x := (tokC [1, 1, 1, 1, 1, 0, 2, 2, 1, 2, 1, 1, 1, 1, 1, 1, 1, 1, 1, 1, 1, 1, 0, 0])) (y := (tokC [1, 1, 1, 1, 1, 0, 2, 2, 1, 2, 1, 1, 1, 1, 1, 1, 1, 1, 1, 1, 1, 1, 0, 1])) ?_
      refine tl61 _ _ k hf8 hk hS ?_
      intro f9 hf9
      show Code.wp _ (tokC [1, 1, 1, 1, 1, 0, 2, 2, 1, 2, 1, 1, 1, 1, 1, 1, 1, 1, 1, 1, 1, 1, 0, 1]) _ _ _
      refine wp_seq (x := (tokC [1, 1, 1, 1, 1, 0, 2, 2, 1, 2, 1, 1, 1, 1, 1, 1, 1, 1, 1, 1, 1, 1, 0, 1, 0])) (y := (tokC [1, 1, 1, 1, 1, 0, 2, 2, 1, 2, 1, 1, 1, 1, 1, 1, 1, 1, 1, 1, 1, 1, 0, 1, 1])) ?_
      refine tl62 _ _ z hf9 ?_
      intro f10 hf10 ht10
      show Code.wp _ (tokC [1, 1, 1, 1, 1, 0, 2, 2, 1, 2, 1, 1, 1, 1, 1, 1, 1, 1, 1, 1, 1, 1, 0, 1, 1]) _ _ _
      have hout : out.length ≤ 20000 := by omega
      have hB7 : bb + 1 ≤ w7.heap.size := Nat.le_trans hB hbw7.size
      have hkl2 : k < S.length := by omega
      have hbtB : bb + 1 ≤ bt := Nat.le_trans hB hbt
      cases z with
      | true =>
        refine wp_cond_false (x := (tokC [1, 1, 1, 1, 1, 0, 2, 2, 1, 2, 1, 1, 1, 1, 1, 1, 1, 1, 1, 1, 1, 1, 0, 1, 1, 3])) (y := (tokC [1, 1, 1, 1, 1, 0, 2, 2, 1, 2, 1, 1, 1, 1, 1, 1, 1, 1, 1, 1, 1, 1, 0, 1, 1, 4])) ht10 ?_
        refine wp_skip ?_
        show Code.wp _ (tokC [1, 1, 1, 1, 1, 0, 2, 2, 1, 2, 1, 1, 1, 1, 1, 1, 1, 1, 1, 1, 1, 1, 1]) _ _ _
        refine tl64 _ _ bt kd nm [] out oa oc (bb + 1) hf10 hT7 hO7 hB7 hout ?_
        intro f11 w11 pa pc hf11 hop hbp
        refine hn f11 w11 ⟨out ++ [⟨kd, nm, [], []⟩], k + 1, pa, pc, by omega, ⟨by simpa using ⟨_, _, _, _, _, _, _, _, _, _, _, _, _, _, hf11⟩, by omega, by simp; omega, ?_, by simpa using hop, src_keep hs7 hbp (Nat.lt_succ_self _) hb0, hbel7.trans (hbp.mono (Nat.le_succ _)), Nat.le_trans hB7 hbp.size⟩⟩
        rw [hpg, hmk, hkd]
        simp
      | false =>
        refine wp_cond_true (x := (tokC [1, 1, 1, 1, 1, 0, 2, 2, 1, 2, 1, 1, 1, 1, 1, 1, 1, 1, 1, 1, 1, 1, 0, 1, 1, 3])) (y := (tokC [1, 1, 1, 1, 1, 0, 2, 2, 1, 2, 1, 1, 1, 1, 1, 1, 1, 1, 1, 1, 1, 1, 0, 1, 1, 4])) ht10 ?_
        refine tl63 _ _ hr nm bt kd hf10 (by omega) hlt7 hT7 ?_
        intro f11 w11 hf11 hT11 hb11
        show Code.wp _ (tokC [1, 1, 1, 1, 1, 0, 2, 2, 1, 2, 1, 1, 1, 1, 1, 1, 1, 1, 1, 1, 1, 1, 1]) _ _ _
        have hb11' : Below w.heap.size w w11 := hbw7.trans (hb11.mono hbt)
        have hO11 := own_tok hown hb11'
        have hs11 := hsr.to hb11'
        have hbel11 : Below bb w0 w11 := hbel.trans (hb11'.mono hBw)
        have hB11 : bb + 1 ≤ w11.heap.size := Nat.le_trans hB hb11'.size
        refine tl64 _ _ bt kd nm (readE hr) out oa oc (bb + 1) hf11 hT11 hO11 hB11 hout ?_
        intro f12 w12 pa pc hf12 hop hbp
        refine hn f12 w12 ⟨out ++ [⟨kd, nm, [], readE hr⟩], k + 1, pa, pc, by omega, ⟨by simpa using ⟨_, _, _, _, _, _, _, _, _, _, _, _, _, _, hf12⟩, by omega, by simp; omega, ?_, by simpa using hop, src_keep hs11 hbp (Nat.lt_succ_self _) hb0, hbel11.trans (hbp.mono (Nat.le_succ _)), Nat.le_trans hB11 hbp.size⟩⟩
        rw [hpg, hmk, hkd]
        simp
  cases hz : z with
  | true =>
    rw [hz] at ht4
    refine wp_cond_true (x := (tokC [1, 1, 1, 1, 1, 0, 2, 2, 1, 2, 1, 1, 1, 1, 1, 1, 1, 1, 0, 1, 3])) (y := (tokC [1, 1, 1, 1, 1, 0, 2, 2, 1, 2, 1, 1, 1, 1, 1, 1, 1, 1, 0, 1, 4])) ht4 ?_
    refine tl30 _ _ bt nm hf4 hT ?_
    intro f5 w5 hf5 hT5 hb5
    show Code.wp _ (tokC [1, 1, 1, 1, 1, 0, 2, 2, 1, 2, 1, 1, 1, 1, 1, 1, 1, 1, 1]) _ _ _
    exact hfin f5 w5 3 (by rw [hz]; rfl) hf5 hT5 (hb3.trans (hb5.mono hbt))
  | false =>
    rw [hz] at ht4
    refine wp_cond_false (x := (tokC [1, 1, 1, 1, 1, 0, 2, 2, 1, 2, 1, 1, 1, 1, 1, 1, 1, 1, 0, 1, 3])) (y := (tokC [1, 1, 1, 1, 1, 0, 2, 2, 1, 2, 1, 1, 1, 1, 1, 1, 1, 1, 0, 1, 4])) ht4 ?_
    refine wp_skip ?_
    show Code.wp _ (tokC [1, 1, 1, 1, 1, 0, 2, 2, 1, 2, 1, 1, 1, 1, 1, 1, 1, 1, 1]) _ _ _
    exact hfin f4 w3 2 (by rw [hz]; rfl) hf4 hT hb3
theorem tok_sign (Q : Exit → Act → World → Prop) (w0 w : World) {bb b0 o0 vc : Nat} {S : Bs} {fr : Array Value} {c0 c2 c7 c8 c9 c10 c11 c12 c13 c14 c15 c16 c17 c18 : Value} (i : Nat) (out : List Tok) (oa : Option Addr) (oc : Nat) (hf : Frm 349 [c0, ptr bb, c2, .slice oa out.length oc, .func (.func 131) #[] #[ptr bb], .func (.func 132) #[] #[ptr bb], .int .i64 i, c7, c8, c9, c10, c11, c12, c13, c14, c15, c16, c17, c18] fr) (hc : S[i]? = some 60) (hg : 2 < bb + 1) (hsr : Src bb b0 o0 vc S w) (hS : S.length ≤ 20000) (hm : ∃ m, w.cell? ⟨2, 0, none⟩ = some (.int .i64 m)) (hown : OwnT (bb + 1) w (.slice oa out.length oc) out) (hB : bb + 1 ≤ w.heap.size) (hb0 : b0 < bb + 1) (ho : out.length ≤ i) (hpg : pageT S = out ++ pageT (S.drop i)) (hbel : Below bb w0 w)
    (hret : ∀ (fr' : Array Value) (w' : World) (out : List Tok) (oa : Option Addr) (oc : Nat), pageT S = out → fr'.getD 2 undef = .slice oa out.length oc → OwnT (bb + 1) w' (.slice oa out.length oc) out → Below bb w0 w' → Q .ret ⟨fr', []⟩ w')
    (hn : ∀ (fr' : Array Value) (w' : World), TN bb b0 o0 vc w0 S i fr' w' → Q .normal ⟨fr', []⟩ w')
    (hn1 : ∀ (fr' : Array Value) (w' : World), TN bb b0 o0 vc w0 S i fr' w' → Q (.exit 1) ⟨fr', []⟩ w') :
    Code.wp Tryz.prog (tokC [1, 1, 1, 1, 1, 0, 2, 2, 1, 2, 1]) Q ⟨fr, []⟩ w := by
  have hi : i < S.length := (List.getElem?_eq_some_iff.1 hc).1
  have hout : out.length ≤ 20000 := by omega
  have hBw : bb ≤ w.heap.size := by omega
  refine wp_seq (x := (tokC [1, 1, 1, 1, 1, 0, 2, 2, 1, 2, 1, 0])) (y := (tokC [1, 1, 1, 1, 1, 0, 2, 2, 1, 2, 1, 1])) ?_
  refine tl12 _ _ i hf (Nat.le_of_lt hi) hS ?_
  intro f1 hf1
  show Code.wp _ (tokC [1, 1, 1, 1, 1, 0, 2, 2, 1, 2, 1, 1]) _ _ _
  refine wp_seq (x := (tokC [1, 1, 1, 1, 1, 0, 2, 2, 1, 2, 1, 1, 0])) (y := (tokC [1, 1, 1, 1, 1, 0, 2, 2, 1, 2, 1, 1, 1])) ?_
  refine tl13 _ _ (i + 1) hf1 hsr ?_
  intro f2 hf2
  show Code.wp _ (tokC [1, 1, 1, 1, 1, 0, 2, 2, 1, 2, 1, 1, 1]) _ _ _
  refine wp_seq (x := (tokC [1, 1, 1, 1, 1, 0, 2, 2, 1, 2, 1, 1, 1, 0])) (y := (tokC [1, 1, 1, 1, 1, 0, 2, 2, 1, 2, 1, 1, 1, 1])) ?_
  refine wp_seq (x := (tokC [1, 1, 1, 1, 1, 0, 2, 2, 1, 2, 1, 1, 1, 0, 0])) (y := (tokC [1, 1, 1, 1, 1, 0, 2, 2, 1, 2, 1, 1, 1, 0, 1])) ?_
  obtain ⟨z, hz⟩ : ∃ z, (at0 S (i + 1) == 47) = z := ⟨_, rfl⟩
  rw [hz] at hf2
  refine tl14 _ _ z hf2 ?_
  intro f3 hf3 ht3
  show Code.wp _ (tokC [1, 1, 1, 1, 1, 0, 2, 2, 1, 2, 1, 1, 1, 0, 1]) _ _ _
  have hfin : ∀ (fx : Array Value), Frm 349 [c0, ptr bb, c2, .slice oa out.length oc, .func (.func 131) #[] #[ptr bb], .func (.func 132) #[] #[ptr bb], .int .i64 i, c7, .int .i64 (tagAt S i), .bool z, c10, c11, c12, c13, c14, c15, c16, c17, c18] fx → Code.wp Tryz.prog (tokC [1, 1, 1, 1, 1, 0, 2, 2, 1, 2, 1, 1, 1, 1]) Q ⟨fx, []⟩ w := by
    intro fx hfx
    refine wp_seq (x := (tokC [1, 1, 1, 1, 1, 0, 2, 2, 1, 2, 1, 1, 1, 1, 0])) (y := (tokC [1, 1, 1, 1, 1, 0, 2, 2, 1, 2, 1, 1, 1, 1, 1])) ?_
    have hst1 : i < tagAt S i := by unfold tagAt; split <;> omega
    refine wp_block (c := (tokC [1, 1, 1, 1, 1, 0, 2, 2, 1, 2, 1, 1, 1, 1, 0, 2])) ?_
    refine wp_seq (x := (tokC [1, 1, 1, 1, 1, 0, 2, 2, 1, 2, 1, 1, 1, 1, 0, 2, 0])) (y := (tokC [1, 1, 1, 1, 1, 0, 2, 2, 1, 2, 1, 1, 1, 1, 0, 2, 1])) ?_
    refine tl16 _ _ i hfx hsr hi ?_
    intro f4 hf4 ht4
    show Code.wp _ (tokC [1, 1, 1, 1, 1, 0, 2, 2, 1, 2, 1, 1, 1, 1, 0, 2, 1]) _ _ _
    cases hpb : sCom.isPrefixOf (S.drop i) with
    | true =>
      rw [hpb] at ht4
      have hmk := mark_com hc hpb
      have hfl := fnd_le hmk.1 [45, 45, 62]
      refine wp_cond_true (x := (tokC [1, 1, 1, 1, 1, 0, 2, 2, 1, 2, 1, 1, 1, 1, 0, 2, 1, 3])) (y := (tokC [1, 1, 1, 1, 1, 0, 2, 2, 1, 2, 1, 1, 1, 1, 0, 2, 1, 4])) ht4 ?_
      refine wp_seq (x := (tokC [1, 1, 1, 1, 1, 0, 2, 2, 1, 2, 1, 1, 1, 1, 0, 2, 1, 3, 0])) (y := (tokC [1, 1, 1, 1, 1, 0, 2, 2, 1, 2, 1, 1, 1, 1, 0, 2, 1, 3, 1])) ?_
      refine tl17 _ _ out oa oc (bb + 1) hf4 hown hB hout ?_
      intro f5 w5 pa pc hf5 hop hbp
      show Code.wp _ (tokC [1, 1, 1, 1, 1, 0, 2, 2, 1, 2, 1, 1, 1, 1, 0, 2, 1, 3, 1]) _ _ _
      refine wp_seq (x := (tokC [1, 1, 1, 1, 1, 0, 2, 2, 1, 2, 1, 1, 1, 1, 0, 2, 1, 3, 1, 0])) (y := (tokC [1, 1, 1, 1, 1, 0, 2, 2, 1, 2, 1, 1, 1, 1, 0, 2, 1, 3, 1, 1])) ?_
      have hs5 := src_keep hsr hbp (Nat.lt_succ_self _) hb0
      have hm5 := someT' hm hg hbp
      refine tl18 _ _ i hf5 hs5 hmk.1 hS hm5 ?_
      intro f6 hf6
      show Code.wp _ (tokC [1, 1, 1, 1, 1, 0, 2, 2, 1, 2, 1, 1, 1, 1, 0, 2, 1, 3, 1, 1]) _ _ _
      refine wp_exit ?_
      refine hn1 f6 w5 ⟨out ++ [tOther], _, pa, pc, by omega, ⟨by simpa using ⟨_, _, _, _, _, _, _, _, _, _, _, _, _, _, hf6⟩, hfl.2, by simp; omega, ?_, by simpa using hop, src_keep hsr hbp (Nat.lt_succ_self _) hb0, hbel.trans (hbp.mono (Nat.le_succ _)), Nat.le_trans hB hbp.size⟩⟩
      rw [hpg, hmk.2]
      simp
    | false =>
      rw [hpb] at ht4
      refine wp_cond_false (x := (tokC [1, 1, 1, 1, 1, 0, 2, 2, 1, 2, 1, 1, 1, 1, 0, 2, 1, 3])) (y := (tokC [1, 1, 1, 1, 1, 0, 2, 2, 1, 2, 1, 1, 1, 1, 0, 2, 1, 4])) ht4 ?_
      refine wp_seq (x := (tokC [1, 1, 1, 1, 1, 0, 2, 2, 1, 2, 1, 1, 1, 1, 0, 2, 1, 4, 0])) (y := (tokC [1, 1, 1, 1, 1, 0, 2, 2, 1, 2, 1, 1, 1, 1, 0, 2, 1, 4, 1])) ?_
      refine tl19 _ _ i hf4 hsr hi hS ?_
      intro f5 hf5 ht5
      show Code.wp _ (tokC [1, 1, 1, 1, 1, 0, 2, 2, 1, 2, 1, 1, 1, 1, 0, 2, 1, 4, 1]) _ _ _
      by_cases hbang : at0 S (i + 1) = 33 ∨ at0 S (i + 1) = 63
      · rw [decide_eq_true hbang] at ht5
        have hsq : S[i + 1]? = some (at0 S (i + 1)) := at0_some (by intro e; rw [e] at hbang; revert hbang; decide)
        have hmk := mark_bang hc hpb hsq hbang
        have hfl := fnd_le (Nat.le_of_lt hi) [62]
        have hfg := fnd_lt hi (t := [62]) (by decide)
        refine wp_cond_true (x := (tokC [1, 1, 1, 1, 1, 0, 2, 2, 1, 2, 1, 1, 1, 1, 0, 2, 1, 4, 1, 3])) (y := (tokC [1, 1, 1, 1, 1, 0, 2, 2, 1, 2, 1, 1, 1, 1, 0, 2, 1, 4, 1, 4])) ht5 ?_
        refine wp_seq (x := (tokC [1, 1, 1, 1, 1, 0, 2, 2, 1, 2, 1, 1, 1, 1, 0, 2, 1, 4, 1, 3, 0])) (y := (tokC [1, 1, 1, 1, 1, 0, 2, 2, 1, 2, 1, 1, 1, 1, 0, 2, 1, 4, 1, 3, 1])) ?_
        refine tl20 _ _ out oa oc (bb + 1) hf5 hown hB hout ?_
        intro f6 w6 pa pc hf6 hop hbp
        show Code.wp _ (tokC [1, 1, 1, 1, 1, 0, 2, 2, 1, 2, 1, 1, 1, 1, 0, 2, 1, 4, 1, 3, 1]) _ _ _
        refine wp_seq (x := (tokC [1, 1, 1, 1, 1, 0, 2, 2, 1, 2, 1, 1, 1, 1, 0, 2, 1, 4, 1, 3, 1, 0])) (y := (tokC [1, 1, 1, 1, 1, 0, 2, 2, 1, 2, 1, 1, 1, 1, 0, 2, 1, 4, 1, 3, 1, 1])) ?_
        have hs6 := src_keep hsr hbp (Nat.lt_succ_self _) hb0
        have hm6 := someT' hm hg hbp
        refine tl21 _ _ i hf6 hs6 (Nat.le_of_lt hi) hS hm6 ?_
        intro f7 hf7
        show Code.wp _ (tokC [1, 1, 1, 1, 1, 0, 2, 2, 1, 2, 1, 1, 1, 1, 0, 2, 1, 4, 1, 3, 1, 1]) _ _ _
        refine wp_exit ?_
        refine hn1 f7 w6 ⟨out ++ [tOther], _, pa, pc, hfg, ⟨by simpa using ⟨_, _, _, _, _, _, _, _, _, _, _, _, _, _, hf7⟩, hfl.2, by simp; omega, ?_, by simpa using hop, src_keep hsr hbp (Nat.lt_succ_self _) hb0, hbel.trans (hbp.mono (Nat.le_succ _)), Nat.le_trans hB hbp.size⟩⟩
        rw [hpg, hmk]
        simp
      · rw [decide_eq_false hbang] at ht5
        have hnb : ∀ d, S[i + 1]? = some d → ¬ (d = 33 ∨ d = 63) := fun d hd => by rw [← at0_in hd]; exact hbang
        refine wp_cond_false (x := (tokC [1, 1, 1, 1, 1, 0, 2, 2, 1, 2, 1, 1, 1, 1, 0, 2, 1, 4, 1, 3])) (y := (tokC [1, 1, 1, 1, 1, 0, 2, 2, 1, 2, 1, 1, 1, 1, 0, 2, 1, 4, 1, 4])) ht5 ?_
        refine wp_seq (x := (tokC [1, 1, 1, 1, 1, 0, 2, 2, 1, 2, 1, 1, 1, 1, 0, 2, 1, 4, 1, 4, 0])) (y := (tokC [1, 1, 1, 1, 1, 0, 2, 2, 1, 2, 1, 1, 1, 1, 0, 2, 1, 4, 1, 4, 1])) ?_
        refine tl22 _ _ (tagAt S i) hf5 hsr ?_
        intro f6 w6 hf6 ht6 hb6
        show Code.wp _ (tokC [1, 1, 1, 1, 1, 0, 2, 2, 1, 2, 1, 1, 1, 1, 0, 2, 1, 4, 1, 4, 1]) _ _ _
        have hs6 := hsr.to hb6
        have hm6 := someT hm hb6
        have hO6 := own_tok hown hb6
        have hB6 : bb + 1 ≤ w6.heap.size := Nat.le_trans hB hb6.size
        have hbel6 : Below bb w0 w6 := hbel.trans (hb6.mono hBw)
        cases hlt : isLt (at0 S (tagAt S i)) with
        | false =>
          rw [hlt] at ht6
          have hmk := mark_lt hc hpb hnb (fun d hd => by rw [← at0_in hd]; exact hlt)
          refine wp_cond_true (x := (tokC [1, 1, 1, 1, 1, 0, 2, 2, 1, 2, 1, 1, 1, 1, 0, 2, 1, 4, 1, 4, 1, 3])) (y := (tokC [1, 1, 1, 1, 1, 0, 2, 2, 1, 2, 1, 1, 1, 1, 0, 2, 1, 4, 1, 4, 1, 4])) ht6 ?_
          refine wp_seq (x := (tokC [1, 1, 1, 1, 1, 0, 2, 2, 1, 2, 1, 1, 1, 1, 0, 2, 1, 4, 1, 4, 1, 3, 0])) (y := (tokC [1, 1, 1, 1, 1, 0, 2, 2, 1, 2, 1, 1, 1, 1, 0, 2, 1, 4, 1, 4, 1, 3, 1])) ?_
          refine tl23 _ _ out oa oc (bb + 1) hf6 hO6 hB6 hout ?_
          intro f7 w7 pa pc hf7 hop hbp
          show Code.wp _ (tokC [1, 1, 1, 1, 1, 0, 2, 2, 1, 2, 1, 1, 1, 1, 0, 2, 1, 4, 1, 4, 1, 3, 1]) _ _ _
          refine wp_seq (x := (tokC [1, 1, 1, 1, 1, 0, 2, 2, 1, 2, 1, 1, 1, 1, 0, 2, 1, 4, 1, 4, 1, 3, 1, 0])) (y := (tokC [1, 1, 1, 1, 1, 0, 2, 2, 1, 2, 1, 1, 1, 1, 0, 2, 1, 4, 1, 4, 1, 3, 1, 1])) ?_
          refine tl24 _ _ i hf7 (Nat.le_of_lt hi) hS ?_
          intro f8 hf8
          show Code.wp _ (tokC [1, 1, 1, 1, 1, 0, 2, 2, 1, 2, 1, 1, 1, 1, 0, 2, 1, 4, 1, 4, 1, 3, 1, 1]) _ _ _
          refine wp_exit ?_
          refine hn1 f8 w7 ⟨out ++ [tText [60]], i + 1, pa, pc, by omega, ⟨by simpa using ⟨_, _, _, _, _, _, _, _, _, _, _, _, _, _, hf8⟩, by omega, by simp; omega, ?_, by simpa using hop, src_keep hs6 hbp (Nat.lt_succ_self _) hb0, hbel6.trans (hbp.mono (Nat.le_succ _)), Nat.le_trans hB6 hbp.size⟩⟩
          rw [hpg, hmk]
          simp
        | true =>
          rw [hlt] at ht6
          have hsd : S[tagAt S i]? = some (at0 S (tagAt S i)) := at0_some (by intro e; rw [e] at hlt; exact absurd hlt (by decide))
          have hmk := mark_tag hc hpb hnb hsd hlt
          refine wp_cond_false (x := (tokC [1, 1, 1, 1, 1, 0, 2, 2, 1, 2, 1, 1, 1, 1, 0, 2, 1, 4, 1, 4, 1, 3])) (y := (tokC [1, 1, 1, 1, 1, 0, 2, 2, 1, 2, 1, 1, 1, 1, 0, 2, 1, 4, 1, 4, 1, 4])) ht6 ?_
          refine wp_skip ?_
          show Code.wp _ (tokC [1, 1, 1, 1, 1, 0, 2, 2, 1, 2, 1, 1, 1, 1, 1]) _ _ _
          refine tok_tag _ w0 w6 i (tagAt S i) z out oa oc hf6 hst1 (List.getElem?_eq_some_iff.1 hsd).1 hs6 hS hm6 hO6 hB6 hb0 ho hpg hbel6 ?_ hret hn
          rw [hmk]
          by_cases h47 : at0 S (i + 1) = 47
          · rw [show z = true by rw [← hz, h47]; rfl]
            cases tagT (S.drop (tagAt S i)) with
            | none => rfl
            | some x => simp [h47]
          · rw [show z = false by rw [← hz]; simpa using h47]
            cases tagT (S.drop (tagAt S i)) with
            | none => rfl
            | some x => simp [h47]
  cases z with
  | true =>
    have e47 : tagAt S i = i + 1 + 1 := by unfold tagAt; rw [if_pos (by simpa using hz)]
    refine wp_cond_true (x := (tokC [1, 1, 1, 1, 1, 0, 2, 2, 1, 2, 1, 1, 1, 0, 1, 3])) (y := (tokC [1, 1, 1, 1, 1, 0, 2, 2, 1, 2, 1, 1, 1, 0, 1, 4])) ht3 ?_
    refine tl15 _ _ (i + 1) hf3 hi hS ?_
    intro f4 hf4
    show Code.wp _ (tokC [1, 1, 1, 1, 1, 0, 2, 2, 1, 2, 1, 1, 1, 1]) _ _ _
    exact hfin f4 (by rw [e47]; exact hf4)
  | false =>
    have e47 : tagAt S i = i + 1 := by unfold tagAt; rw [if_neg (by simpa using hz)]
    refine wp_cond_false (x := (tokC [1, 1, 1, 1, 1, 0, 2, 2, 1, 2, 1, 1, 1, 0, 1, 3])) (y := (tokC [1, 1, 1, 1, 1, 0, 2, 2, 1, 2, 1, 1, 1, 0, 1, 4])) ht3 ?_
    refine wp_skip ?_
    show Code.wp _ (tokC [1, 1, 1, 1, 1, 0, 2, 2, 1, 2, 1, 1, 1, 1]) _ _ _
    exact hfin f3 (by rw [e47]; exact hf3)
theorem tok_text (Q : Exit → Act → World → Prop) (w0 w : World) {bb b0 o0 vc : Nat} {S : Bs} {fr : Array Value} {c0 c2 c7 c8 c9 c10 c11 c12 c13 c14 c15 c16 c17 c18 : Value} (i : Nat) (c : UInt8) (out : List Tok) (oa : Option Addr) (oc : Nat) (hf : Frm 349 [c0, ptr bb, c2, .slice oa out.length oc, .func (.func 131) #[] #[ptr bb], .func (.func 132) #[] #[ptr bb], .int .i64 i, c7, c8, c9, c10, c11, c12, c13, c14, c15, c16, c17, c18] fr) (hc : S[i]? = some c) (h60 : c ≠ 60) (hsr : Src bb b0 o0 vc S w) (hS : S.length ≤ 20000) (hown : OwnT (bb + 1) w (.slice oa out.length oc) out) (hB : bb + 1 ≤ w.heap.size) (hb0 : b0 < bb + 1) (ho : out.length ≤ i) (hpg : pageT S = out ++ pageT (S.drop i)) (hbel : Below bb w0 w)
    (hn1 : ∀ (fr' : Array Value) (w' : World), TN bb b0 o0 vc w0 S i fr' w' → Q (.exit 1) ⟨fr', []⟩ w') :
    Code.wp Tryz.prog (tokC [1, 1, 1, 1, 1, 0, 2, 2, 1, 2, 0, 1, 3]) Q ⟨fr, []⟩ w := by
  have hi : i < S.length := (List.getElem?_eq_some_iff.1 hc).1
  have hout : out.length ≤ 20000 := by omega
  refine wp_seq (x := (tokC [1, 1, 1, 1, 1, 0, 2, 2, 1, 2, 0, 1, 3, 0])) (y := (tokC [1, 1, 1, 1, 1, 0, 2, 2, 1, 2, 0, 1, 3, 1])) ?_
  refine tl7 _ _ i hf ?_
  intro f1 hf1
  show Code.wp _ (tokC [1, 1, 1, 1, 1, 0, 2, 2, 1, 2, 0, 1, 3, 1]) _ _ _
  refine wp_seq (x := (tokC [1, 1, 1, 1, 1, 0, 2, 2, 1, 2, 0, 1, 3, 1, 0])) (y := (tokC [1, 1, 1, 1, 1, 0, 2, 2, 1, 2, 0, 1, 3, 1, 1])) ?_
  refine wp_scan (j := 7) (fun v => [c0, ptr bb, c2, .slice oa out.length oc, .func (.func 131) #[] #[ptr bb], .func (.func 132) #[] #[ptr bb], .int .i64 i, v, c8, c9, c10, c11, c12, c13, c14, c15, c16, c17, c18]) n60 (tokC [1, 1, 1, 1, 1, 0, 2, 2, 1, 2, 0, 1, 3, 1, 0, 2, 2, 0, 0]) (tokC [1, 1, 1, 1, 1, 0, 2, 2, 1, 2, 0, 1, 3, 1, 0, 2, 2, 1, 2]) (fun _ => rfl) (fun k' fr' Q' hk' hf' h' => tl8 Q' _ k' hf' hsr h') (fun k' fr' Q' hk' hf' h' => tl9 Q' _ k' hf' (Nat.le_of_lt hk') hS h') hf1 (Nat.le_of_lt hi) ?_
  intro k f2 hsc hik hk hst hf2
  show Code.wp _ (tokC [1, 1, 1, 1, 1, 0, 2, 2, 1, 2, 0, 1, 3, 1, 1]) _ _ _
  refine wp_seq (x := (tokC [1, 1, 1, 1, 1, 0, 2, 2, 1, 2, 0, 1, 3, 1, 1, 0])) (y := (tokC [1, 1, 1, 1, 1, 0, 2, 2, 1, 2, 0, 1, 3, 1, 1, 1])) ?_
  have hik' : i < k := by
    rcases Nat.lt_or_ge i k with h | h
    · exact h
    · exfalso
      have e : k = i := by omega
      subst e
      rcases hst with h1 | ⟨d, h1, h2⟩
      · omega
      · rw [hc] at h1
        cases h1
        exact h60 (by simpa [n60] using h2)
  have hs' : k = S.length ∨ S[k]? = some 60 := by
    rcases hst with h1 | ⟨d, h1, h2⟩
    · exact Or.inl h1
    · right
      rw [h1, show d = 60 by simpa [n60] using h2]
  have hmk := pageTk_text hsc hik' hs'
  refine tl10 _ _ i k out oa oc (bb + 1) hf2 hsr hik' hk hS hown hB hout ?_
  intro f3 w3 pa pc hf3 hop hbp
  show Code.wp _ (tokC [1, 1, 1, 1, 1, 0, 2, 2, 1, 2, 0, 1, 3, 1, 1, 1]) _ _ _
  refine wp_seq (x := (tokC [1, 1, 1, 1, 1, 0, 2, 2, 1, 2, 0, 1, 3, 1, 1, 1, 0])) (y := (tokC [1, 1, 1, 1, 1, 0, 2, 2, 1, 2, 0, 1, 3, 1, 1, 1, 1])) ?_
  refine tl11 _ _ k hf3 ?_
  intro f4 hf4
  show Code.wp _ (tokC [1, 1, 1, 1, 1, 0, 2, 2, 1, 2, 0, 1, 3, 1, 1, 1, 1]) _ _ _
  refine wp_exit ?_
  refine hn1 f4 w3 ⟨out ++ [tText (readE ((S.take k).drop i))], k, pa, pc, hik', ⟨by simpa using ⟨_, _, _, _, _, _, _, _, _, _, _, _, _, _, hf4⟩, hk, by simp; omega, ?_, by simpa using hop, src_keep hsr hbp (Nat.lt_succ_self _) hb0, hbel.trans (hbp.mono (Nat.le_succ _)), Nat.le_trans hB hbp.size⟩⟩
  rw [hpg, hmk]
  simp
theorem tok_loop (Q : Exit → Act → World → Prop) (w0 w : World) {bb b0 o0 vc : Nat} {S : Bs} {fr : Array Value} (hS : S.length ≤ 20000) (hm : ∀ w', Below bb w0 w' → ∃ m, w'.cell? ⟨2, 0, none⟩ = some (.int .i64 m)) (hb0 : b0 < bb + 1) (hg : 2 < bb + 1)
    (hT : TI bb b0 o0 vc w0 S [] 0 none 0 fr w)
    (hret : ∀ (fr' : Array Value) (w' : World) (out : List Tok) (oa : Option Addr) (oc : Nat), pageT S = out → fr'.getD 2 undef = .slice oa out.length oc → OwnT (bb + 1) w' (.slice oa out.length oc) out → Below bb w0 w' → Q .ret ⟨fr', []⟩ w')
    (hend : ∀ (fr' : Array Value) (w' : World) (out : List Tok) (oa : Option Addr) (oc : Nat), TI bb b0 o0 vc w0 S out S.length oa oc fr' w' → Q (.exit 0) ⟨fr', []⟩ w') :
    Code.wp Tryz.prog (tokC [1, 1, 1, 1, 1, 0, 2]) Q ⟨fr, []⟩ w := by
  refine wp_loop (c := (tokC [1, 1, 1, 1, 1, 0, 2, 2])) (fun a w' => a.defers = [] ∧ ∃ (out : List Tok) (i : Nat) (oa : Option Addr) (oc : Nat), TI bb b0 o0 vc w0 S out i oa oc a.tmps w') (fun a _ => S.length - (intOf (a.tmps.getD 6 undef)).toNat) ⟨rfl, [], 0, none, 0, hT⟩ ?_
  rintro ⟨fa, df⟩ w' ⟨hd, out, i, oa, oc, hI⟩
  obtain rfl : df = [] := hd
  have hm' := hm w' hI.bel
  obtain ⟨c0, hF⟩ := hI.frm
  obtain ⟨c2, hF⟩ := hF
  obtain ⟨c7, hF⟩ := hF
  obtain ⟨c8, hF⟩ := hF
  obtain ⟨c9, hF⟩ := hF
  obtain ⟨c10, hF⟩ := hF
  obtain ⟨c11, hF⟩ := hF
  obtain ⟨c12, hF⟩ := hF
  obtain ⟨c13, hF⟩ := hF
  obtain ⟨c14, hF⟩ := hF
  obtain ⟨c15, hF⟩ := hF
  obtain ⟨c16, hF⟩ := hF
  obtain ⟨c17, hF⟩ := hF
  obtain ⟨c18, hF⟩ := hF
  have hnx : ∀ (fr' : Array Value) (w'' : World), TN bb b0 o0 vc w0 S i fr' w'' → ((fr', ([] : List Deferred)).2 = [] ∧ ∃ (out : List Tok) (i : Nat) (oa : Option Addr) (oc : Nat), TI bb b0 o0 vc w0 S out i oa oc fr' w'') ∧ S.length - (intOf (fr'.getD 6 undef)).toNat < S.length - (intOf (fa.getD 6 undef)).toNat := by
    rintro fr' w'' ⟨out', n, oa', oc', hin, hI'⟩
    refine ⟨⟨rfl, out', n, oa', oc', hI'⟩, ?_⟩
    have h1 := hI'.hi
    have hG := hI'.frm
    unfold TF at hG
    obtain ⟨e0, hG⟩ := hG
    obtain ⟨e2, hG⟩ := hG
    obtain ⟨e7, hG⟩ := hG
    obtain ⟨e8, hG⟩ := hG
    obtain ⟨e9, hG⟩ := hG
    obtain ⟨e10, hG⟩ := hG
    obtain ⟨e11, hG⟩ := hG
    obtain ⟨e12, hG⟩ := hG
    obtain ⟨e13, hG⟩ := hG
    obtain ⟨e14, hG⟩ := hG
    obtain ⟨e15, hG⟩ := hG
    obtain ⟨e16, hG⟩ := hG
    obtain ⟨e17, hG⟩ := hG
    obtain ⟨e18, hG⟩ := hG
    rw [hG.get rfl, hF.get rfl]
    simp only [intOf]
    omega
  refine wp_seq (x := (tokC [1, 1, 1, 1, 1, 0, 2, 2, 0])) (y := (tokC [1, 1, 1, 1, 1, 0, 2, 2, 1])) ?_
  refine wp_seq (x := (tokC [1, 1, 1, 1, 1, 0, 2, 2, 0, 0])) (y := (tokC [1, 1, 1, 1, 1, 0, 2, 2, 0, 1])) ?_
  refine tl5 _ _ i hF hI.src ?_
  intro f1 hf1 ht1
  show Code.wp _ (tokC [1, 1, 1, 1, 1, 0, 2, 2, 0, 1]) _ _ _
  by_cases hlt : i < S.length
  · rw [decide_eq_true hlt] at ht1
    obtain ⟨c, hc⟩ : ∃ c, S[i]? = some c := ⟨_, List.getElem?_eq_getElem hlt⟩
    refine wp_cond_true (x := (tokC [1, 1, 1, 1, 1, 0, 2, 2, 0, 1, 3])) (y := (tokC [1, 1, 1, 1, 1, 0, 2, 2, 0, 1, 4])) ht1 ?_
    refine wp_skip ?_
    show Code.wp _ (tokC [1, 1, 1, 1, 1, 0, 2, 2, 1]) _ _ _
    refine wp_block (c := (tokC [1, 1, 1, 1, 1, 0, 2, 2, 1, 2])) ?_
    refine wp_seq (x := (tokC [1, 1, 1, 1, 1, 0, 2, 2, 1, 2, 0])) (y := (tokC [1, 1, 1, 1, 1, 0, 2, 2, 1, 2, 1])) ?_
    refine wp_seq (x := (tokC [1, 1, 1, 1, 1, 0, 2, 2, 1, 2, 0, 0])) (y := (tokC [1, 1, 1, 1, 1, 0, 2, 2, 1, 2, 0, 1])) ?_
    refine tl6 _ _ i hf1 hI.src c hc ?_
    intro f2 hf2 ht2
    show Code.wp _ (tokC [1, 1, 1, 1, 1, 0, 2, 2, 1, 2, 0, 1]) _ _ _
    by_cases h60 : c = 60
    · subst h60
      refine wp_cond_false (x := (tokC [1, 1, 1, 1, 1, 0, 2, 2, 1, 2, 0, 1, 3])) (y := (tokC [1, 1, 1, 1, 1, 0, 2, 2, 1, 2, 0, 1, 4])) ht2 ?_
      refine wp_skip ?_
      show Code.wp _ (tokC [1, 1, 1, 1, 1, 0, 2, 2, 1, 2, 1]) _ _ _
      refine tok_sign _ w0 w' i out oa oc hf2 hc hg hI.src hS hm' hI.own hI.siz hb0 hI.ho hI.pg hI.bel hret ?_ ?_
      · intro fr' w'' hN
        exact hnx fr' w'' hN
      · intro fr' w'' hN
        exact hnx fr' w'' hN
    · rw [show (c != 60) = true by simpa using h60] at ht2
      refine wp_cond_true (x := (tokC [1, 1, 1, 1, 1, 0, 2, 2, 1, 2, 0, 1, 3])) (y := (tokC [1, 1, 1, 1, 1, 0, 2, 2, 1, 2, 0, 1, 4])) ht2 ?_
      refine tok_text _ w0 w' i c out oa oc hf2 hc h60 hI.src hS hI.own hI.siz hb0 hI.ho hI.pg hI.bel ?_
      intro fr' w'' hN
      exact hnx fr' w'' hN
  · rw [decide_eq_false hlt] at ht1
    refine wp_cond_false (x := (tokC [1, 1, 1, 1, 1, 0, 2, 2, 0, 1, 3])) (y := (tokC [1, 1, 1, 1, 1, 0, 2, 2, 0, 1, 4])) ht1 ?_
    refine wp_exit ?_
    obtain rfl : i = S.length := by have := hI.hi; omega
    exact hend f1 w' out oa oc ⟨⟨_, _, _, _, _, _, _, _, _, _, _, _, _, _, hf1⟩, hI.hi, hI.ho, hI.pg, hI.own, hI.src, hI.bel, hI.siz⟩
theorem tok_body (Q : Exit → Act → World → Prop) (w : World) {vc : Nat} (va : Option Addr) {S : Bs} {fr : Array Value} {c2 c3 c6 c7 c8 c9 c10 c11 c12 c13 c14 c15 c16 c17 c18 c1 c4 c5 : Value} (hf : Frm 349 [.slice va S.length vc, c1, c2, c3, c4, c5, c6, c7, c8, c9, c10, c11, c12, c13, c14, c15, c16, c17, c18] fr) (hS : S.length ≤ 20000) (hm : ∃ m, w.cell? ⟨2, 0, none⟩ = some (.int .i64 m))
    (hread : S ≠ [] → ∃ b0 o0, va = some ⟨b0, o0, none⟩ ∧ b0 < w.heap.size ∧ Src w.heap.size b0 o0 vc S (w.alloc (.cells #[.slice va S.length vc] 41)))
    (hret : ∀ (fr' : Array Value) (w' : World) (oa : Option Addr) (oc : Nat), fr'.getD 2 undef = .slice oa (pageT S).length oc → OwnT (w.heap.size + 1) w' (.slice oa (pageT S).length oc) (pageT S) → Below w.heap.size w w' → Q .ret ⟨fr', []⟩ w') :
    Code.wp Tryz.prog (tokC []) Q ⟨fr, []⟩ w := by
  have hB1 : Below w.heap.size w (w.alloc (.cells #[.slice va S.length vc] 41)) := bal (brf w) _
  refine wp_seq (x := (tokC [0])) (y := (tokC [1])) ?_
  refine tl0 _ _ va S.length vc hf ?_
  intro f1 hf1
  show Code.wp _ (tokC [1]) _ _ _
  refine wp_seq (x := (tokC [1, 0])) (y := (tokC [1, 1])) ?_
  refine tl1 _ _ hf1 ?_
  intro f2 hf2
  show Code.wp _ (tokC [1, 1]) _ _ _
  refine wp_seq (x := (tokC [1, 1, 0])) (y := (tokC [1, 1, 1])) ?_
  refine tl2 _ _ hf2 ?_
  intro f3 hf3
  show Code.wp _ (tokC [1, 1, 1]) _ _ _
  refine wp_seq (x := (tokC [1, 1, 1, 0])) (y := (tokC [1, 1, 1, 1])) ?_
  refine tl3 _ _ hf3 ?_
  intro f4 hf4
  show Code.wp _ (tokC [1, 1, 1, 1]) _ _ _
  refine wp_seq (x := (tokC [1, 1, 1, 1, 0])) (y := (tokC [1, 1, 1, 1, 1])) ?_
  refine tl4 _ _ hf4 ?_
  intro f5 hf5
  show Code.wp _ (tokC [1, 1, 1, 1, 1]) _ _ _
  refine wp_seq (x := (tokC [1, 1, 1, 1, 1, 0])) (y := (tokC [1, 1, 1, 1, 1, 1])) ?_
  have hend : ∀ (fx : Array Value) (wx : World) (oa : Option Addr) (oc : Nat), TF w.heap.size (.slice oa (pageT S).length oc) (.int .i64 S.length) fx → OwnT (w.heap.size + 1) wx (.slice oa (pageT S).length oc) (pageT S) → Below w.heap.size w wx → Code.wp Tryz.prog (tokC [1, 1, 1, 1, 1, 1]) Q ⟨fx, []⟩ wx := by
    intro fx wx oa oc hF hO hb
    obtain ⟨c0, hF⟩ := hF
    obtain ⟨c2, hF⟩ := hF
    obtain ⟨c7, hF⟩ := hF
    obtain ⟨c8, hF⟩ := hF
    obtain ⟨c9, hF⟩ := hF
    obtain ⟨c10, hF⟩ := hF
    obtain ⟨c11, hF⟩ := hF
    obtain ⟨c12, hF⟩ := hF
    obtain ⟨c13, hF⟩ := hF
    obtain ⟨c14, hF⟩ := hF
    obtain ⟨c15, hF⟩ := hF
    obtain ⟨c16, hF⟩ := hF
    obtain ⟨c17, hF⟩ := hF
    obtain ⟨c18, hF⟩ := hF
    refine wp_seq (x := (tokC [1, 1, 1, 1, 1, 1, 0])) (y := (tokC [1, 1, 1, 1, 1, 1, 1])) ?_
    refine tl65 _ _ _ hF ?_
    intro f9 hf9
    show Code.wp _ (tokC [1, 1, 1, 1, 1, 1, 1]) _ _ _
    exact wp_ret (hret f9 wx oa oc (hf9.get rfl) hO hb)
  refine wp_block (c := (tokC [1, 1, 1, 1, 1, 0, 2])) ?_
  show Code.wp Tryz.prog (tokC [1, 1, 1, 1, 1, 0, 2]) _ _ _
  by_cases hS0 : S = []
  · subst hS0
    have hx : (w.alloc (.cells #[.slice va 0 vc] 41)).cell? ⟨w.heap.size, 0, none⟩ = some (.slice va 0 vc) := cellAt' (heap_new _ _) rfl
    refine wp_loop_rounds 1 ?_
    rw [rounds_succ]
    show Code.wp Tryz.prog (tokC [1, 1, 1, 1, 1, 0, 2, 2]) _ _ _
    refine wp_seq (x := (tokC [1, 1, 1, 1, 1, 0, 2, 2, 0])) (y := (tokC [1, 1, 1, 1, 1, 0, 2, 2, 1])) ?_
    refine wp_seq (x := (tokC [1, 1, 1, 1, 1, 0, 2, 2, 0, 0])) (y := (tokC [1, 1, 1, 1, 1, 0, 2, 2, 0, 1])) ?_
    refine tl5n _ _ va vc hf5 hx ?_
    intro f6 hf6 ht6
    show Code.wp _ (tokC [1, 1, 1, 1, 1, 0, 2, 2, 0, 1]) _ _ _
    refine wp_cond_false (x := (tokC [1, 1, 1, 1, 1, 0, 2, 2, 0, 1, 3])) (y := (tokC [1, 1, 1, 1, 1, 0, 2, 2, 0, 1, 4])) ht6 ?_
    refine wp_exit ?_
    exact hend f6 _ none 0 ⟨_, _, _, _, _, _, _, _, _, _, _, _, _, _, hf6⟩ OwnS.nil hB1
  · obtain ⟨b0, o0, rfl, hb0, hsrc⟩ := hread hS0
    obtain ⟨m, hm⟩ := hm
    have hmB : ∀ w', Below w.heap.size w w' → ∃ m, w'.cell? ⟨2, 0, none⟩ = some (.int .i64 m) := fun w' hb => ⟨m, (hb.cell (lt_of_cell hm)).trans hm⟩
    have hg : 2 < w.heap.size + 1 := Nat.lt_succ_of_lt (lt_of_cell hm)
    refine tok_loop _ w _ hS hmB (Nat.lt_succ_of_lt hb0) hg ⟨⟨_, _, _, _, _, _, _, _, _, _, _, _, _, _, hf5⟩, Nat.zero_le _, Nat.zero_le _, rfl, OwnS.nil, hsrc, hB1, by simp⟩ ?_ ?_
    · rintro fr' w' out oa oc rfl h2 hO hb
      exact hret fr' w' oa oc h2 hO hb
    · intro fr' w' out oa oc hI
      have hpg := hI.pg
      rw [List.drop_length, pageT_nil, List.append_nil] at hpg
      subst hpg
      exact hend fr' w' oa oc hI.frm hI.own hI.bel
set_option maxRecDepth 1000000 in
theorem refTokens_any (F : Nat → Prop) (v : Value) (S : Bs) (w : World) (h : RBytes F w v S) (hm : ∃ m, w.cell? ⟨2, 0, none⟩ = some (.int .i64 m)) (hS : S.length ≤ 20000) :
    Calls Tryz.prog 77 #[v] w fun e w' => ∃ r, e = .returned r ∧ RToks (w.heap.size ≤ ·) w' r (pageT S) ∧ Below w.heap.size w w' := by
  obtain ⟨va, vc, rfl, hl63⟩ := RdS.len h
  have hread : S ≠ [] → ∃ b0 o0, va = some ⟨b0, o0, none⟩ ∧ b0 < w.heap.size ∧ Src w.heap.size b0 o0 vc S (w.alloc (.cells #[.slice va S.length vc] 41)) := by
    intro hne
    obtain ⟨c0, S0, hS0⟩ := List.exists_cons_of_ne_nil hne
    obtain ⟨a', cap', e, hle, hmx, _, hel⟩ := h
    cases e
    obtain ⟨b0, o0, cs, ha, _, _, hat0, hR0⟩ := hel 0 c0 (by rw [hS0]; rfl)
    subst ha
    have hlt0 : b0 < w.heap.size := by
      subst hR0
      exact lt_of_cell hat0.one
    refine ⟨b0, o0, rfl, hlt0, ⟨cellAt' (heap_new _ _) rfl, fun k c hk => ?_, hle, hmx⟩⟩
    obtain ⟨b, o, cs, e1, _, _, hat, hR⟩ := hel k c hk
    cases e1
    subst hR
    have := hat.one
    rw [Nat.mul_one] at this
    exact ((bal (brf w) _).cell (lt_of_cell this)).trans this
  go_enter Tryz.func77, Tryz.ntmps77
  refine tok_body _ w va (S := S) (vc := vc) ⟨rfl, rfl⟩ hS hm hread ?_
  intro fr' w' oa oc h2 hO hb
  refine bodyPost_ret (v := .slice oa (pageT S).length oc) (by simpa [results, Tryz.results77] using h2) rfl ⟨_, rfl, ?_, hb⟩
  exact (hO.rd).to (by decide) (fun k hk _ => ⟨by show w.heap.size ≤ k; have : w.heap.size + 1 ≤ k := hk; omega, rfl⟩) (fun _ _ _ r => r)
end Go.Proofs.YteikncnldbdfmaaGreatDoor
