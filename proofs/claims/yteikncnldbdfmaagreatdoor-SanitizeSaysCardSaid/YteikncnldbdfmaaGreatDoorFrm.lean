/- Frames of many slots, of which the first few are named: pieces of a great body, each a contract of its own. -/
import Derived.Test.YteikncnldbdfmaaGreatDoorMem
import Derived.Test.YteikncnldbdfmaaGreatDoorPl
namespace Go.Mh
open Go.RowKit
/-- A part of a code: 0 and 1 a sequence's halves, 2 what a block, a loop or a scope holds, 3 and 4 a condition's arms. -/
def pick : List Nat → Code → Code
  | 0 :: p, .seq a _ => pick p a
  | 1 :: p, .seq _ b => pick p b
  | 2 :: p, .block _ c => pick p c
  | 2 :: p, .loop c => pick p c
  | 2 :: p, .scope c => pick p c
  | 3 :: p, .cond _ a _ => pick p a
  | 4 :: p, .cond _ _ b => pick p b
  | _, c => c
/-- A frame of n slots whose first ones hold s. -/
structure Frm (n : Nat) (s : List Value) (fr : Array Value) : Prop where
  size : fr.size = n
  head : fr.toList.take s.length = s
theorem Frm.open {n : Nat} {s : List Value} {fr : Array Value} (h : Frm n s fr) : ∃ l : List Value, l.length = n - s.length ∧ fr = (s ++ l).toArray := by
  refine ⟨fr.toList.drop s.length, ?_, ?_⟩
  · have := h.size
    simp [this]
  · have := List.take_append_drop s.length fr.toList
    rw [h.head] at this
    rw [this]
theorem Frm.rest {n : Nat} {s : List Value} {fr : Array Value} (h : Frm n s fr) : fr = (s ++ (List.range (n - s.length)).map fun k => fr.getD (s.length + k) undef).toArray := by
  obtain ⟨l, hl, rfl⟩ := h.open
  congr 2
  rw [← hl]
  apply List.ext_getElem
  · simp
  · intro k h1 h2
    simp
    rw [List.getElem?_append_right (by omega)]
    simp [h1]
def tst (p : UInt8 → Bool) (S : Bs) (k : Nat) : Bool := match S[k]? with
  | some d => p d
  | none => false
def n60 (c : UInt8) : Bool := c != 60
def n62 (c : UInt8) : Bool := c != 62
theorem tst_in (p : UInt8 → Bool) {S : Bs} {k : Nat} {d : UInt8} (h : S[k]? = some d) : tst p S k = p d := by unfold tst; rw [h]
theorem tst_out (p : UInt8 → Bool) {S : Bs} {k : Nat} (h : S.length ≤ k) : tst p S k = false := by unfold tst; rw [List.getElem?_eq_none h]
theorem tst_step {p : UInt8 → Bool} {S : Bs} {i k : Nat} (h : Scan p S i k) (ht : tst p S k = true) : k < S.length ∧ Scan p S i (k + 1) := by
  cases hd : S[k]? with
  | none => unfold tst at ht; rw [hd] at ht; cases ht
  | some d => exact ⟨(List.getElem?_eq_some_iff.1 hd).1, h.step hd (by rw [tst_in p hd] at ht; exact ht)⟩
theorem tst_stop {p : UInt8 → Bool} {S : Bs} {k : Nat} (hk : k ≤ S.length) (ht : tst p S k = false) : k = S.length ∨ ∃ d, S[k]? = some d ∧ p d = false := by
  cases hd : S[k]? with
  | none => left; have := List.getElem?_eq_none_iff.1 hd; omega
  | some d => right; exact ⟨d, rfl, by rw [tst_in p hd] at ht; exact ht⟩
theorem Frm.get {n : Nat} {s : List Value} {fr : Array Value} (h : Frm n s fr) {j : Nat} {v : Value} (hj : s[j]? = some v) : fr.getD j undef = v := by
  have hlt : j < s.length := (List.getElem?_eq_some_iff.1 hj).1
  have e : fr.toList[j]? = some v := by
    have := h.head
    rw [← hj, ← this, List.getElem?_take, if_pos hlt]
  simp at e
  simp [Array.getD_eq_getD_getElem?, e]
/-- A scanning loop: it runs on while the test holds, and changes nothing but its place. -/
theorem wp_scan {P : Program} {Q : Exit → Act → World → Prop} {n j : Nat} (σ : Value → List Value) {T e e2 : Nat} (p : UInt8 → Bool) {S : Bs} {i : Nat} {w : World} (test inc : Code) {fr : Array Value} (hj : ∀ v, (σ v)[j]? = some v)
    (htest : ∀ (k : Nat) (fr : Array Value) (Q' : Exit → Act → World → Prop), k ≤ S.length → Frm n (σ (.int .i64 k)) fr → (∀ fr', Frm n (σ (.int .i64 k)) fr' → fr'.getD T undef = .bool (tst p S k) → Q' .normal ⟨fr', []⟩ w) → test.wp P Q' ⟨fr, []⟩ w)
    (hinc : ∀ (k : Nat) (fr : Array Value) (Q' : Exit → Act → World → Prop), k < S.length → Frm n (σ (.int .i64 k)) fr → (∀ fr', Frm n (σ (.int .i64 ((k + 1 : Nat) : Int))) fr' → Q' .normal ⟨fr', []⟩ w) → inc.wp P Q' ⟨fr, []⟩ w)
    (hf : Frm n (σ (.int .i64 i)) fr) (hi : i ≤ S.length)
    (hpost : ∀ (k : Nat) (fr' : Array Value), Scan p S i k → i ≤ k → k ≤ S.length → (k = S.length ∨ ∃ d, S[k]? = some d ∧ p d = false) → Frm n (σ (.int .i64 k)) fr' → Q .normal ⟨fr', []⟩ w) :
    (Code.block e (.loop (.seq (.seq test (.cond (.tmp T) .skip (.exit e))) (.block e2 inc)))).wp P Q ⟨fr, []⟩ w := by
  refine wp_block (wp_loop (fun a w' => w' = w ∧ a.defers = [] ∧ ∃ k : Nat, Scan p S i k ∧ i ≤ k ∧ k ≤ S.length ∧ Frm n (σ (.int .i64 k)) a.tmps) (fun a _ => S.length - (intOf (a.tmps.getD j undef)).toNat) ⟨rfl, rfl, i, Scan.start hi, Nat.le_refl _, hi, hf⟩ ?_)
  rintro ⟨fa, df⟩ w' ⟨rfl, hd, k, hsc, hik, hk, hfa⟩
  obtain rfl : df = [] := hd
  refine wp_seq (wp_seq (htest k fa _ hk hfa ?_))
  intro f1 hf1 ht
  show (Code.cond (.tmp T) .skip (.exit e)).wp P _ _ _
  cases hb : tst p S k with
  | false =>
    rw [hb] at ht
    refine wp_cond_false ht (wp_exit ?_)
    show (if e = e then Q .normal ⟨f1, []⟩ w' else _)
    rw [if_pos rfl]
    exact hpost k f1 hsc hik hk (tst_stop hk hb) hf1
  | true =>
    rw [hb] at ht
    obtain ⟨hlt, hsc'⟩ := tst_step hsc hb
    refine wp_cond_true ht (wp_skip ?_)
    show (Code.block e2 inc).wp P _ _ _
    refine wp_block (hinc k f1 _ hlt hf1 ?_)
    intro f2 hf2
    refine ⟨⟨rfl, rfl, k + 1, hsc', by omega, hlt, hf2⟩, ?_⟩
    show S.length - (intOf (f2.getD j undef)).toNat < S.length - (intOf (fa.getD j undef)).toNat
    rw [hf2.get (hj _), hfa.get (hj _)]
    simp only [intOf]
    omega
/-- The same goal, but that a panic leaves the frame's slots out of sight (what a region that draws its order asks). -/
def flatQ (Q : Exit → Act → World → Prop) : Exit → Act → World → Prop
  | .panic c, a, w => Q (.panic c) ⟨#[], a.defers⟩ w
  | e, a, w => Q e a w
theorem wp_flat {P : Program} {c : Code} {Q : Exit → Act → World → Prop} {a : Act} {w : World} (hQ : ∀ x (t t' : Array Value) (df : List Deferred) w, Q (.panic x) ⟨t, df⟩ w → Q (.panic x) ⟨t', df⟩ w) (h : c.wp P (flatQ Q) a w) : c.wp P Q a w := by
  refine wp_mono h ?_
  intro e a w h
  cases e with
  | panic x => exact hQ x _ _ _ w h
  | normal => exact h
  | exit _ => exact h
  | goto _ => exact h
  | ret => exact h
  | outgrown => exact h
/-- More of the frame's slots named; fewer. -/
theorem Frm.more {n : Nat} {s : List Value} {fr : Array Value} (h : Frm n s fr) (m : Nat) (hm : s.length + m ≤ n) : Frm n (s ++ (List.range m).map fun k => fr.getD (s.length + k) undef) fr := by
  obtain ⟨l, hl, rfl⟩ := h.open
  refine ⟨h.size, ?_⟩
  simp only [List.length_append, List.length_map, List.length_range]
  rw [List.take_append, List.take_of_length_le (by omega), Nat.add_sub_cancel_left]
  congr 1
  apply List.ext_getElem
  · simp; omega
  · intro k h1 h2
    simp at h1
    simp
    rw [List.getElem?_append_right (by omega)]
    have hk : k < l.length := by omega
    simp [hk]
theorem Frm.less {n : Nat} {s : List Value} {fr : Array Value} (h : Frm n s fr) (k : Nat) (hk : k ≤ s.length) : Frm n (s.take k) fr := by
  refine ⟨h.size, ?_⟩
  have := congrArg (List.take k) h.head
  rw [List.take_take, Nat.min_eq_left hk] at this
  rw [List.length_take, Nat.min_eq_left hk]
  exact this
end Go.Mh
