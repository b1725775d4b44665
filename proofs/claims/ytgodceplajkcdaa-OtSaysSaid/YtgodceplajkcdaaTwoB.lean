/- Three boxes beside two rows of acts; two operations of a drawn region that may come up in either order; an act's cells by their kinds. -/
import Derived.Test.YtgodceplajkcdaaTwoA
import Derived.Test.YtgodceplajkcdaaRegT
namespace Go.Mh
open Go
section
variable {P : Program} {ops : Array Oper} {Q : Exit → Act → World → Prop} {md : Region.Mode} {S : World → Prop}
/-- Two operations may come up, in either order: what they leave behind is said once. -/
theorem wpAnyH_two (i j di dj : Nat) {oi oj : Oper} {fuel : Nat} {listed : Array Bool} {l : List Value} {df : List _} {w : World} (hi : ops[i]? = some oi) (hj : ops[j]? = some oj) (hne : di ≠ dj)
    (hr : Region.ready md ops listed = [i, j]) (hri : Region.ready md ops (listed.setIfInBounds i true) = [j]) (hrj : Region.ready md ops (listed.setIfInBounds j true) = [i]) (hij : i ≠ j)
    (A B : Value → World → Prop) (I : Value → Value → World → Prop)
    (h1 : ∀ K' : Act → World → Prop, Shut (∀ v w', S w' → A v w' → K' ⟨(l.set di v).toArray, df⟩ w') → if Region.wanted oi (yielded ops l.toArray) = true then Oper.wp P oi ⟨l.toArray, df⟩ w K' Q else K' ((⟨l.toArray, df⟩ : Act).put oi.dst undef) w)
    (h2 : ∀ v w', A v w' → ∀ K' : Act → World → Prop, Shut (∀ u w'', S w'' → I v u w'' → K' ⟨((l.set di v).set dj u).toArray, df⟩ w'') → if Region.wanted oj (yielded ops (l.set di v).toArray) = true then Oper.wp P oj ⟨(l.set di v).toArray, df⟩ w' K' Q else K' ((⟨(l.set di v).toArray, df⟩ : Act).put oj.dst undef) w')
    (h3 : ∀ K' : Act → World → Prop, Shut (∀ u w', S w' → B u w' → K' ⟨(l.set dj u).toArray, df⟩ w') → if Region.wanted oj (yielded ops l.toArray) = true then Oper.wp P oj ⟨l.toArray, df⟩ w K' Q else K' ((⟨l.toArray, df⟩ : Act).put oj.dst undef) w)
    (h4 : ∀ u w', B u w' → ∀ K' : Act → World → Prop, Shut (∀ v w'', S w'' → I v u w'' → K' ⟨((l.set dj u).set di v).toArray, df⟩ w'') → if Region.wanted oi (yielded ops (l.set dj u).toArray) = true then Oper.wp P oi ⟨(l.set dj u).toArray, df⟩ w' K' Q else K' ((⟨(l.set dj u).toArray, df⟩ : Act).put oi.dst undef) w')
    (h : ∀ v u w', I v u w' → S w' → wpAnyH P md ops Q S fuel ((listed.setIfInBounds i true).setIfInBounds j true) ⟨((l.set di v).set dj u).toArray, df⟩ w') :
    wpAnyH P md ops Q S (fuel + 2) listed ⟨l.toArray, df⟩ w := by
  refine ⟨fun h0 => by (rw [hr] at h0; cases h0), fun k hk => ?_⟩
  rw [hr] at hk
  rcases (by simpa using hk : k = i ∨ k = j) with rfl | rfl
  · refine wpOp_step hi fun K' hK => h1 K' fun v w' hS hA => hK _ w' ⟨hS, ?_⟩
    refine wpAnyH_step j hj hri fun K'' hK2 => h2 v w' hA K'' fun u w'' hS' hI => hK2.out _ _ hS' (h v u w'' hI hS')
  · refine wpOp_step hj fun K' hK => h3 K' fun u w' hS hB => hK _ w' ⟨hS, ?_⟩
    refine wpAnyH_step i hi hrj fun K'' hK2 => h4 u w' hB K'' fun v w'' hS' hI => hK2.out _ _ hS' ?_
    have := h v u w'' hI hS'
    rwa [Array.setIfInBounds_comm _ _ hij, List.set_comm _ _ hne] at this
end
open Go.RowKit
/-- A new block, and two. -/
structure New1 (w0 : World) (T : TypeId) (Z : Array Value) (g : Nat) (w : World) : Prop where
  hg : w.heap[g]? = some (.cells Z T (0, 0))
  ge : w0.heap.size ≤ g
  hb : Below w0.heap.size w0 w
structure New2 (w0 : World) (T : TypeId) (Z : Array Value) (g1 g2 : Nat) (w : World) : Prop where
  h1 : w.heap[g1]? = some (.cells Z T (0, 0))
  h2 : w.heap[g2]? = some (.cells Z T (0, 0))
  ge1 : w0.heap.size ≤ g1
  ge2 : w0.heap.size ≤ g2
  ne : g1 ≠ g2
  hb : Below w0.heap.size w0 w
theorem New1.mk' {w0 w : World} (hb : Below w0.heap.size w0 w) (T : TypeId) (Z : Array Value) : New1 w0 T Z w.heap.size (w.alloc (.cells Z T)) := ⟨heap_new w _, hb.size, bal hb _⟩
theorem New1.two {w0 w : World} {T : TypeId} {Z : Array Value} {g : Nat} (h : New1 w0 T Z g w) : New2 w0 T Z g w.heap.size (w.alloc (.cells Z T)) :=
  ⟨((bal (brf w) _).block g (lt_of_heap h.hg)).trans h.hg, heap_new w _, h.ge, h.hb.size, Nat.ne_of_lt (lt_of_heap h.hg), bal h.hb _⟩
theorem New2.symm {w0 w : World} {T : TypeId} {Z : Array Value} {g1 g2 : Nat} (h : New2 w0 T Z g1 g2 w) : New2 w0 T Z g2 g1 w := ⟨h.h2, h.h1, h.ge2, h.ge1, Ne.symm h.ne, h.hb⟩
end Go.Mh
namespace Go.Proofs.Ytgodceplajkcdaa
open Go.RowKit Go.Mh
/-- Three boxes: an act, ahead of B, and two rows. -/
structure Bx (B gk gs gt : Nat) (ck cs ct : Array Value) (w : World) : Prop where
  hk : w.heap[gk]? = some (.cells ck 126 (0, 0))
  hs : w.heap[gs]? = some (.cells cs 147 (0, 0))
  ht : w.heap[gt]? = some (.cells ct 147 (0, 0))
  lk : gk < B
section
variable {B gk gs gt : Nat} {ck cs ct : Array Value} {w w' : World} {lv mv : Value} {X Y : List Ac}
theorem Bx.below (h : Bx B gk gs gt ck cs ct w) (hb : Below w.heap.size w w') : Bx B gk gs gt ck cs ct w' :=
  ⟨(hb.block _ (lt_of_heap h.hk)).trans h.hk, (hb.block _ (lt_of_heap h.hs)).trans h.hs, (hb.block _ (lt_of_heap h.ht)).trans h.ht, h.lk⟩
theorem Bx.grown (h : Bx B gk gs gt ck cs ct w) (T : TwoA B w lv mv X Y) (hg : w.grownBy w' lv.ownBlock) : Bx B gk gs gt ck cs ct w' :=
  ⟨(hg.block _ (lt_of_heap h.hk) (fun e => by have := (own_ge T.l e.symm).1; have := h.lk; omega)).trans h.hk,
   (hg.block _ (lt_of_heap h.hs) (T.l.ne h.hs (by decide))).trans h.hs, (hg.block _ (lt_of_heap h.ht) (T.l.ne h.ht (by decide))).trans h.ht, h.lk⟩
theorem cell_of {g T : Nat} {cs : Array Value} {fr : Nat × Nat} (h : w.heap[g]? = some (.cells cs T fr)) (i : Nat) (v : Value) (hv : cs[i]? = some v) : w.cell? ⟨g, i, none⟩ = some v := by
  unfold World.cell?; rw [h]; exact hv
theorem fz_of {g T : Nat} {cs : Array Value} (h : w.heap[g]? = some (.cells cs T (0, 0))) (i : Nat) : w.frozen? ⟨g, i, none⟩ = false := by simp [World.frozen?, h]
/-- A row of one act, in a block that is no own row's. -/
theorem RActs.grown {g : Nat} {u : Value} {M : List Ac} (h : RActs (· = g) w u M) (hgw : ∀ k, lv.ownBlock = some k → k ≠ g) (hg : w.grownBy w' lv.ownBlock) : RActs (· = g) w' u M :=
  RActs.to h fun k hk hl => ⟨hk, hg.block k hl (fun e => hgw k e.symm hk)⟩
end
end Go.Proofs.Ytgodceplajkcdaa
