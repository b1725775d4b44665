/- The reference Read: its state in memory; its closure that ends a block. -/
import Derived.Test.YteikncnldbdfmaaGreatDoorPl
import Derived.Test.YteikncnldbdfmaaGreatDoorSan
import Derived.Test.YteikncnldbdfmaaGreatDoorReadSo
namespace Go.Proofs.YteikncnldbdfmaaGreatDoor
open Go.RowKit Go.Mh
/-- What Read keeps: the document so far in block b5 (its own row lies from B1 on), the block's kind in b8, whether a block is open in b11; below B1 all else is as it was. -/
structure RS (B B1 b5 b8 b11 : Nat) (wt w : World) (d : List It) (kind : Int) (inn : Bool) : Prop where
  hd : ∃ da dc, w.heap[b5]? = some (.cells #[.slice da d.length dc] 23 (0, 0)) ∧ OwnS B1 58 3 RIt w (.slice da d.length dc) d
  hk : w.heap[b8]? = some (.cells #[.int .i64 kind] 3 (0, 0))
  hi : w.heap[b11]? = some (.cells #[.bool inn] 4 (0, 0))
  same : ∀ j, j < B1 → j ≠ b5 → j ≠ b8 → j ≠ b11 → w.heap[j]? = wt.heap[j]?
  bel : Below B wt w
  siz : B1 ≤ w.heap.size
  o5 : B ≤ b5 ∧ b5 < B1
  o8 : B ≤ b8 ∧ b8 < B1
  o11 : B ≤ b11 ∧ b11 < B1
  n58 : b5 ≠ b8
  n5b : b5 ≠ b11
  n8b : b8 ≠ b11
theorem RS.to {B B1 b5 b8 b11 : Nat} {wt w w' : World} {d : List It} {kind : Int} {inn : Bool} (h : RS B B1 b5 b8 b11 wt w d kind inn) (hb : Below w.heap.size w w') : RS B B1 b5 b8 b11 wt w' d kind inn := by
  obtain ⟨da, dc, h5, ho⟩ := h.hd
  exact ⟨⟨da, dc, (hb.block _ (lt_of_heap h5)).trans h5, ho.below hb (fun _ _ _ r => r)⟩, (hb.block _ (lt_of_heap h.hk)).trans h.hk, (hb.block _ (lt_of_heap h.hi)).trans h.hi, fun j hj h1 h2 h3 => (hb.block j (Nat.lt_of_lt_of_le hj h.siz)).trans (h.same j hj h1 h2 h3), h.bel.trans (hb.mono (by have := h.siz; have := h.o5; omega)), Nat.le_trans h.siz hb.size, h.o5, h.o8, h.o11, h.n58, h.n5b, h.n8b⟩
theorem neDI : 23 ≠ 58 := by decide
theorem neII : 3 ≠ 58 := by decide
theorem neBI : 4 ≠ 58 := by decide
theorem RS.kind' {B B1 b5 b8 b11 : Nat} {wt w : World} {d : List It} {kind : Int} {inn : Bool} (h : RS B B1 b5 b8 b11 wt w d kind inn) (v : Int) : RS B B1 b5 b8 b11 wt (w.setCell ⟨b8, 0, none⟩ (.int .i64 v)) d v inn := by
  obtain ⟨da, dc, h5, ho⟩ := h.hd
  exact ⟨⟨da, dc, (heap_setCell_other _ _ _ _ (by intro e; first | exact h.n58 e | exact h.n58 e.symm)).trans h5, ho.to (fun b hb _ => heap_setCell_other _ _ _ _ (fun e' => ho.ne h.hk neII (by rw [hb, e']))) (fun _ _ _ r => r)⟩, by simpa using heap_set (i := 0) (.int .i64 v) h.hk, (heap_setCell_other _ _ _ _ (by intro e; first | exact h.n8b e | exact h.n8b e.symm)).trans h.hi, fun j hj h1 h2 h3 => (heap_setCell_other _ _ _ _ (by intro e; first | exact h2 e | exact h2 e.symm)).trans (h.same j hj h1 h2 h3), h.bel.setCell (p := ⟨b8, 0, none⟩) h.o8.1 _, by simpa [World.setCell] using h.siz, h.o5, h.o8, h.o11, h.n58, h.n5b, h.n8b⟩
theorem RS.inn' {B B1 b5 b8 b11 : Nat} {wt w : World} {d : List It} {kind : Int} {inn : Bool} (h : RS B B1 b5 b8 b11 wt w d kind inn) (v : Bool) : RS B B1 b5 b8 b11 wt (w.setCell ⟨b11, 0, none⟩ (.bool v)) d kind v := by
  obtain ⟨da, dc, h5, ho⟩ := h.hd
  exact ⟨⟨da, dc, (heap_setCell_other _ _ _ _ (by intro e; first | exact h.n5b e | exact h.n5b e.symm)).trans h5, ho.to (fun b hb _ => heap_setCell_other _ _ _ _ (fun e' => ho.ne h.hi neBI (by rw [hb, e']))) (fun _ _ _ r => r)⟩, (heap_setCell_other _ _ _ _ (by intro e; first | exact h.n8b e | exact h.n8b e.symm)).trans h.hk, by simpa using heap_set (i := 0) (.bool v) h.hi, fun j hj h1 h2 h3 => (heap_setCell_other _ _ _ _ (by intro e; first | exact h3 e | exact h3 e.symm)).trans (h.same j hj h1 h2 h3), h.bel.setCell (p := ⟨b11, 0, none⟩) h.o11.1 _, by simpa [World.setCell] using h.siz, h.o5, h.o8, h.o11, h.n58, h.n5b, h.n8b⟩
/-- The document's box takes a row that the call owns. -/
theorem RS.doc' {B B1 b5 b8 b11 : Nat} {wt w w' : World} {d D : List It} {kind : Int} {inn : Bool} {da : Option Addr} {dc : Nat} (h : RS B B1 b5 b8 b11 wt w d kind inn) (hb : Below B1 w w') (ho : OwnS B1 58 3 RIt w' (.slice da D.length dc) D) : RS B B1 b5 b8 b11 wt (w'.setCell ⟨b5, 0, none⟩ (.slice da D.length dc)) D kind inn := by
  obtain ⟨_, _, h5, _⟩ := h.hd
  have h5' := (hb.block b5 h.o5.2).trans h5
  exact ⟨⟨da, dc, by simpa using heap_set (i := 0) (.slice da D.length dc) h5', ho.to (fun b hb _ => heap_setCell_other _ _ _ _ (fun e' => ho.ne h5' neDI (by rw [hb, e']))) (fun _ _ _ r => r)⟩, (heap_setCell_other _ _ _ _ (by intro e; first | exact h.n58 e | exact h.n58 e.symm)).trans ((hb.block b8 h.o8.2).trans h.hk), (heap_setCell_other _ _ _ _ (by intro e; first | exact h.n5b e | exact h.n5b e.symm)).trans ((hb.block b11 h.o11.2).trans h.hi), fun j hj h1 h2 h3 => (heap_setCell_other _ _ _ _ (by intro e; first | exact h1 e | exact h1 e.symm)).trans ((hb.block j hj).trans (h.same j hj h1 h2 h3)), (h.bel.trans (hb.mono (by have := h.o5; omega))).setCell (p := ⟨b5, 0, none⟩) h.o5.1 _, by simpa [World.setCell] using Nat.le_trans h.siz hb.size, h.o5, h.o8, h.o11, h.n58, h.n5b, h.n8b⟩
theorem elDoc' : El Tryz.prog 23 58 3 32 (.agg #[.int .u8 0, .int .i64 0, .string ⟨#[]⟩]) := elDocS
/-- One item appended to a document that the call owns. -/
theorem wpList_doc {w : World} {ops : Array Oper} {rest : List Oper} {o : Oper} {a : Act} {Q : Exit → Act → World → Prop} (hg : o.guard = none) (s x : Operand)
    (hop : o.op = Op.call { callee := Callee.builtin Builtin.append, args := #[s, x], argTypes := #[23, 23] })
    (B g : Nat) (v : Value) (L : List It) (y : It) (hs : a.eval s = v) (hown : OwnS B 58 3 RIt w v L) (hx : a.eval x = .slice (some ⟨g, 0, none⟩) 1 1) (hb : w.heap[g]? = some (.cells #[.int .u8 y.c.toNat, .int .i64 y.m, str y.l] 58 (0, 0)))
    (hL : L.length ≤ 200000) (hB : B ≤ w.heap.size)
    (hK : ∀ la lc w', OwnS B 58 3 RIt w' (.slice la (L.length + 1) lc) (L ++ [y]) → Below B w w' → w.grownBy w' v.ownBlock → wpList Tryz.prog ops Q rest (a.put o.dst (.slice la (L.length + 1) lc)) w') : wpList Tryz.prog ops Q (o :: rest) a w := by
  refine wpList_app hg s x 23 hop B 58 3 32 _ elDoc' RIt v L [y] hs hown (fun _ => True) _ hx (RItems.lit (n := 1) (cap := 1) hb rfl (by decide) (by decide) trivial (fun i z hi => ?_)) RIt_one (by simp [maxLen]; omega) (by simp; omega) hB (fun _ _ _ _ _ r => r) ?_
  · match i, hi with
    | 0, hi => simp at hi; subst hi; exact ⟨rfl, rfl, rfl⟩
  intro v' w' ho hgrow hbel
  obtain ⟨la, lc, rfl, _⟩ := RdS.len ho.rd
  have hln : (L ++ [y]).length = L.length + 1 := by simp
  rw [hln] at ho ⊢
  exact hK la lc w' ho hbel hgrow
/-- What is neither one of Read's three boxes nor a row of items stays as it is. -/
def Keeps (b5 b8 b11 : Nat) (w w' : World) : Prop := ∀ (j : Nat) (xs : Array Value) (T : TypeId) (fr : Nat × Nat), w.heap[j]? = some (.cells xs T fr) → T ≠ 58 → j ≠ b5 → j ≠ b8 → j ≠ b11 → w'.heap[j]? = w.heap[j]?
theorem Keeps.below {b5 b8 b11 : Nat} {w w' : World} (h : Below w.heap.size w w') : Keeps b5 b8 b11 w w' := fun j _ _ _ hj _ _ _ _ => h.block j (lt_of_heap hj)
theorem Keeps.trans {b5 b8 b11 : Nat} {w w' w'' : World} (h : Keeps b5 b8 b11 w w') (h' : Keeps b5 b8 b11 w' w'') : Keeps b5 b8 b11 w w'' := fun j xs T fr hj hT h1 h2 h3 => by
  have e := h j xs T fr hj hT h1 h2 h3
  exact (h' j xs T fr (e.trans hj) hT h1 h2 h3).trans e
theorem Keeps.set {b5 b8 b11 b : Nat} {w w' : World} (h : Keeps b5 b8 b11 w w') (hb : b = b5 ∨ b = b8 ∨ b = b11) (v : Value) : Keeps b5 b8 b11 w (w'.setCell ⟨b, 0, none⟩ v) := fun j xs T fr hj hT h1 h2 h3 =>
  (heap_setCell_other _ _ _ _ (by intro e; simp at e; rcases hb with rfl | rfl | rfl <;> first | exact h1 e | exact h2 e | exact h3 e | exact h1 e.symm | exact h2 e.symm | exact h3 e.symm)).trans (h j xs T fr hj hT h1 h2 h3)
/-- One item appended to a row that the call owns: all but that row and new blocks stays. -/
theorem Keeps.app {b5 b8 b11 B1 : Nat} {w wp : World} {v : Value} {d : List It} {o : Obj} (ho : OwnS B1 58 3 RIt w v d) (hg : (w.alloc o).grownBy wp v.ownBlock) : Keeps b5 b8 b11 w wp := fun j xs T fr hj hT _ _ _ => by
  have hlt := lt_of_heap hj
  rw [hg.block j (by simp; omega) (ho.ne hj hT)]
  exact (bal (brf w) o).block j hlt
/-- Read's end: of a block that is open, or whose last sign ends none. -/
def endsR (d : List It) (inn : Bool) : Prop := inn = true ∨ ∃ x, d.getLast? = some x ∧ x.c ≠ 10
set_option maxRecDepth 100000 in
set_option maxHeartbeats 4000000 in
theorem rdEnd_yes {B B1 b5 b8 b11 : Nat} {wt w : World} {d : List It} {kind : Int} {inn : Bool} (h : RS B B1 b5 b8 b11 wt w d kind inn) (hl : d.length ≤ 100000) (he : endsR d inn) :
    Calls Tryz.prog 76 #[.pointer (some ⟨b11, 0, none⟩), .pointer (some ⟨b5, 0, none⟩), .pointer (some ⟨b8, 0, none⟩)] w fun e w' => e = .returned (.tuple #[]) ∧ RS B B1 b5 b8 b11 wt w' (d ++ [⟨10, kind, []⟩]) 0 false ∧ Keeps b5 b8 b11 w w' := by
  obtain ⟨da, dc, h5, ho⟩ := h.hd
  have x5 := cellAt' (i := 0) h5 rfl
  have x8 := cellAt' (i := 0) h.hk rfl
  have x11 := cellAt' (i := 0) h.hi rfl
  have HR := Lib.hid h
  have hO := Lib.hid ho
  have hsz := h.siz
  have h5l : b5 < w.heap.size := lt_of_heap h5
  have h8l : b8 < w.heap.size := lt_of_heap h.hk
  have h11l : b11 < w.heap.size := lt_of_heap h.hi
  have fin : ∀ a' c' w', OwnS B1 58 3 RIt w' (.slice a' (d.length + 1) c') (d ++ [⟨10, kind, []⟩]) → Below B1 w w' → RS B B1 b5 b8 b11 wt (((w'.setCell ⟨b5, 0, none⟩ (.slice a' (d.length + 1) c')).setCell ⟨b11, 0, none⟩ (.bool false)).setCell ⟨b8, 0, none⟩ (.int .i64 0)) (d ++ [⟨10, kind, []⟩]) 0 false := by
    intro a' c' w' ho' hb'
    have e1 : (d ++ [(⟨10, kind, []⟩ : It)]).length = d.length + 1 := by simp
    rw [← e1] at ho' ⊢
    exact ((HR.out.doc' hb' ho').inn' false).kind' 0
  have FIN := Lib.hid fin
  have keep : ∀ w', Below B1 w w' → w'.heap[b5]? = some (.cells #[.slice da d.length dc] 23 (0, 0)) ∧ w'.heap[b8]? = some (.cells #[.int .i64 kind] 3 (0, 0)) ∧ w'.heap[b11]? = some (.cells #[.bool inn] 4 (0, 0)) := fun w' hb => ⟨(hb.block b5 h.o5.2).trans h5, (hb.block b8 h.o8.2).trans h.hk, (hb.block b11 h.o11.2).trans h.hi⟩
  have KEEP := Lib.hid keep
  have hne : ¬ b5 = b8 ∧ ¬ b5 = b11 ∧ ¬ b8 = b11 := ⟨h.n58, h.n5b, h.n8b⟩
  clear fin keep ho
  cases inn with
  | true =>
    clear he h5 h
    go_enter Tryz.func76, Tryz.ntmps76
    go_wp2_with (at_builtin; refine wpList_doc rfl (.tmp 19) (.tmp 22) rfl B1 w.heap.size _ d ⟨10, kind, []⟩ rfl (hO.out.below (bal (brf _) _) (fun _ _ _ r => r)) rfl (heap_new _ _) (by omega) (Nat.le_trans hsz (by simp)) ?_; intro a' c' wp ho' hb' hgr'; obtain ⟨k5, k8, k11⟩ := KEEP.out wp (((bal (brf w) _).mono hsz).trans hb'); have y5 := cellAt' (i := 0) k5 rfl; have y8 := cellAt' (i := 0) k8 rfl; have y11 := cellAt' (i := 0) k11 rfl; have f5 : ∀ i, wp.frozen? ⟨b5, i, none⟩ = false := fun i => Lib.frozen_of_heap k5 _; have f8 : ∀ i, wp.frozen? ⟨b8, i, none⟩ = false := fun i => Lib.frozen_of_heap k8 _; have f11 : ∀ i, wp.frozen? ⟨b11, i, none⟩ = false := fun i => Lib.frozen_of_heap k11 _; clear k5 k8 k11)
    go_wp2
    go_end0
    exact ⟨rfl, FIN.out a' c' wp ho' (((bal (brf w) _).mono hsz).trans hb'), (((Keeps.app hO.out hgr').set (Or.inl rfl) _).set (Or.inr (Or.inr rfl)) _).set (Or.inr (Or.inl rfl)) _⟩
  | false =>
    obtain ⟨x, hx, hx10⟩ : ∃ x, d.getLast? = some x ∧ x.c ≠ 10 := by
      rcases he with h | h
      · cases h
      · exact h
    have hpos : 0 < d.length := by
      cases d with
      | nil => simp at hx
      | cons _ _ => simp
    obtain ⟨ab, ao, rfl, q0, _, _⟩ := RItems.at (show RItems (B1 ≤ ·) w (.slice da d.length dc) d from hO.out.rd) (brf w) (k := d.length - 1) (x := x) (by rw [← List.getLast?_eq_getElem?]; exact hx)
    have e1 : ((d.length : Int) - 1) = ((d.length - 1 : Nat) : Int) := by omega
    have e0 : decide ((0 : Int) < (d.length : Int)) = true := by simp; omega
    have e0' : decide (0 < d.length) = true := by simp; omega
    have t1 : ((x.c.toNat : Int) != 10) = true := by rw [bne_iff_ne]; intro e; exact hx10 (UInt8.toNat_inj.1 (by show x.c.toNat = 10; omega))
    have hlt1 : d.length - 1 < d.length := by omega
    clear he h5 h hx hx10
    go_enter Tryz.func76, Tryz.ntmps76
    go_wp2_with (at_builtin; refine wpList_doc rfl (.tmp 19) (.tmp 22) rfl B1 w.heap.size _ d ⟨10, kind, []⟩ rfl (hO.out.below (bal (brf _) _) (fun _ _ _ r => r)) rfl (heap_new _ _) (by omega) (Nat.le_trans hsz (by simp)) ?_; intro a' c' wp ho' hb' hgr'; obtain ⟨k5, k8, k11⟩ := KEEP.out wp (((bal (brf w) _).mono hsz).trans hb'); have y5 := cellAt' (i := 0) k5 rfl; have y8 := cellAt' (i := 0) k8 rfl; have y11 := cellAt' (i := 0) k11 rfl; have f5 : ∀ i, wp.frozen? ⟨b5, i, none⟩ = false := fun i => Lib.frozen_of_heap k5 _; have f8 : ∀ i, wp.frozen? ⟨b8, i, none⟩ = false := fun i => Lib.frozen_of_heap k8 _; have f11 : ∀ i, wp.frozen? ⟨b11, i, none⟩ = false := fun i => Lib.frozen_of_heap k11 _; clear k5 k8 k11)
    go_wp2
    go_end0
    exact ⟨rfl, FIN.out a' c' wp ho' (((bal (brf w) _).mono hsz).trans hb'), (((Keeps.app hO.out hgr').set (Or.inl rfl) _).set (Or.inr (Or.inr rfl)) _).set (Or.inr (Or.inl rfl)) _⟩
set_option maxRecDepth 100000 in
set_option maxHeartbeats 4000000 in
theorem rdEnd_no {B B1 b5 b8 b11 : Nat} {wt w : World} {d : List It} {kind : Int} {inn : Bool} (h : RS B B1 b5 b8 b11 wt w d kind inn) (hl : d.length ≤ 100000) (he : ¬ endsR d inn) :
    Calls Tryz.prog 76 #[.pointer (some ⟨b11, 0, none⟩), .pointer (some ⟨b5, 0, none⟩), .pointer (some ⟨b8, 0, none⟩)] w fun e w' => e = .returned (.tuple #[]) ∧ RS B B1 b5 b8 b11 wt w' d 0 false ∧ Keeps b5 b8 b11 w w' := by
  obtain ⟨da, dc, h5, ho⟩ := h.hd
  have x5 := cellAt' (i := 0) h5 rfl
  have x8 := cellAt' (i := 0) h.hk rfl
  have x11 := cellAt' (i := 0) h.hi rfl
  have f8 : ∀ i, w.frozen? ⟨b8, i, none⟩ = false := fun i => Lib.frozen_of_heap h.hk _
  have f11 : ∀ i, w.frozen? ⟨b11, i, none⟩ = false := fun i => Lib.frozen_of_heap h.hi _
  have HF := Lib.hid ((h.inn' false).kind' 0)
  have hO := Lib.hid ho
  have hne : ¬ b5 = b8 ∧ ¬ b5 = b11 ∧ ¬ b8 = b11 := ⟨h.n58, h.n5b, h.n8b⟩
  have hin : inn = false := by cases inn; rfl; exact absurd (Or.inl rfl) he
  subst hin
  rcases List.eq_nil_or_concat d with hd | ⟨p, x, hd⟩
  · subst hd
    clear he h5 h ho hO
    go_enter Tryz.func76, Tryz.ntmps76
    go_wp2
    go_end0
    exact ⟨rfl, HF.out, ((Keeps.below (brf w)).set (Or.inr (Or.inr rfl)) _).set (Or.inr (Or.inl rfl)) _⟩
  · have hd' : d = p ++ [x] := by rw [hd]; simp
    have hx : d.getLast? = some x := by rw [hd']; simp
    have hx10 : x.c = 10 := by
      rcases Decidable.em (x.c = 10) with h1 | h1
      · exact h1
      · exact absurd (Or.inr ⟨x, hx, h1⟩) he
    have hpos : 0 < d.length := by rw [hd']; simp
    obtain ⟨ab, ao, rfl, q0, _, _⟩ := RItems.at (show RItems (B1 ≤ ·) w (.slice da d.length dc) d from hO.out.rd) (brf w) (k := d.length - 1) (x := x) (by rw [← List.getLast?_eq_getElem?]; exact hx)
    have e1 : ((d.length : Int) - 1) = ((d.length - 1 : Nat) : Int) := by omega
    have e0 : decide ((0 : Int) < (d.length : Int)) = true := by simp; omega
    have e0' : decide (0 < d.length) = true := by simp; omega
    have t1 : ((x.c.toNat : Int) != 10) = false := by rw [hx10]; rfl
    have hlt1 : d.length - 1 < d.length := by omega
    clear he h5 h ho hx hx10 hd hd'
    go_enter Tryz.func76, Tryz.ntmps76
    go_wp2
    go_end0
    exact ⟨rfl, HF.out, ((Keeps.below (brf w)).set (Or.inr (Or.inr rfl)) _).set (Or.inr (Or.inl rfl)) _⟩
/-- Both: what the desk's end does to what it keeps. -/
theorem rdEnd_any {B B1 b5 b8 b11 : Nat} {wt w : World} (k : Dk) (h : RS B B1 b5 b8 b11 wt w k.d k.kind k.inn) (hl : k.d.length ≤ 100000) (hf : Fo k) :
    Calls Tryz.prog 76 #[.pointer (some ⟨b11, 0, none⟩), .pointer (some ⟨b5, 0, none⟩), .pointer (some ⟨b8, 0, none⟩)] w fun e w' => e = .returned (.tuple #[]) ∧ RS B B1 b5 b8 b11 wt w' (endD k).d (endD k).kind (endD k).inn ∧ Keeps b5 b8 b11 w w' := by
  have key : endsR k.d k.inn ↔ (k.inn = true ∨ k.from' < k.d.length) := by
    unfold endsR
    constructor
    · rintro (h | ⟨x, hx, hc⟩)
      · exact Or.inl h
      · exact Or.inr ((hf.last hx).2 hc)
    · rintro (h | h)
      · exact Or.inl h
      · right
        have hne : k.d ≠ [] := by intro e; rw [e] at h; simp at h
        exact ⟨_, List.getLast?_eq_some_getLast hne, (hf.last (List.getLast?_eq_some_getLast hne)).1 h⟩
  by_cases he : endsR k.d k.inn
  · have e : endD k = { k with d := k.d ++ [⟨10, k.kind, []⟩], from' := k.d.length + 1, inn := false, kind := 0 } := by unfold endD; rw [if_pos (key.1 he)]
    rw [e]
    exact rdEnd_yes h hl he
  · have e : endD k = { k with inn := false, kind := 0 } := by unfold endD; rw [if_neg (fun x => he (key.2 x))]
    rw [e]
    exact rdEnd_no h hl he
end Go.Proofs.YteikncnldbdfmaaGreatDoor
