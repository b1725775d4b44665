/- One element appended to the call's own row, whatever its elements read: what is kept is said by one hypothesis. Of whatever program. -/
import Derived.Test.YtckdlhgeelhnmaaGreatMemA
import Derived.Laws.CopyOwn
import Derived.Test.YtckdlhgeelhnmaaGreatRefU
import Derived.Test.YtckdlhgeelhnmaaGreatRegT
import Derived.OwnWalk
namespace Go.Mh
open Go.RowKit
theorem wpList_appK {P : Program} {w : World} {ops : Array Oper} {rest : List Oper} {o : Oper} {a : Act} {Q : Exit → Act → World → Prop} (hgd : o.guard = none) (s x : Operand) (t : TypeId)
    (ho : o.op = .call { callee := .builtin .append, args := #[s, x], argTypes := #[t, t] })
    {α : Type} (base e sz bytes : Nat) (z : Value) (hel : El P t e sz bytes z) (R : World → List Value → α → Prop) (v : Value) (L : List α) (hs : a.eval s = v) (hown : OwnS base e sz R w v L)
    (y : α) (cs : List Value) (e' : TypeId) (g : Nat) (hx : a.eval x = .slice (some ⟨g, 0, none⟩) 1 1) (hg : g = w.heap.size) (hcs : cs.length = sz) (hR1 : R w cs y) (h1c : ∀ w cs x, R w cs x → ∀ u ∈ cs, u.oneCell' = true)
    (h63 : L.length + 1 ≤ maxLen) (hbytes : (L.length + 1) * bytes ≤ 140737488355328) (hbase : base ≤ w.heap.size)
    (hkeep : ∀ w', w.heap.size ≤ w'.heap.size → (∀ k, k < w.heap.size → some k ≠ v.ownBlock → w'.heap[k]? = w.heap[k]?) → ∀ cs x, R w cs x → R w' cs x)
    (h : ∀ v' w', OwnS base e sz R w' v' (L ++ [y]) → Below base w w' → w.heap.size < w'.heap.size → (∀ k, k < w.heap.size → some k ≠ v.ownBlock → w'.heap[k]? = w.heap[k]?) → wpList P ops Q rest (a.put o.dst v') w') :
    wpList P ops Q (o :: rest) a (w.alloc (.cells cs.toArray e')) := by
  subst hg
  have hb0 : Below w.heap.size w (w.alloc (.cells cs.toArray e')) := (Below.refl _ _).alloc (Nat.le_refl _) _
  have hcomb : ∀ w', (w.alloc (.cells cs.toArray e')).grownBy w' v.ownBlock → ∀ k, k < w.heap.size → some k ≠ v.ownBlock → w'.heap[k]? = w.heap[k]? := fun w' hg k hk hne => by
    rw [hg.block k (by simp; omega) hne]; exact hb0.block k hk
  have hown0 : OwnS base e sz (fun _ => R w) (w.alloc (.cells cs.toArray e')) v L := hown.to (fun k _ hl => hb0.block k hl) fun _ _ _ r => r
  refine wpList_app hgd s x t ho base e sz bytes z hel (fun _ => R w) v L [y] hs hown0 (fun _ => True) _ hx
    (RdS.one cs e' hcs trivial hR1) (fun _ cs x r => h1c w cs x r) (by simpa using h63) (by simpa using hbytes) (by simp; omega) (fun _ _ _ _ _ r => r) ?_
  intro v' w' hown' hg hb
  have hz : w.heap.size < w'.heap.size := by have := hg.size; simp at this; omega
  exact h v' w' (hown'.to (fun _ _ _ => rfl) fun cs x _ r => hkeep w' (Nat.le_of_lt hz) (hcomb w' hg) cs x r) (((Below.refl _ _).alloc hbase _).trans hb) hz (hcomb w' hg)
end Go.Mh
/- The builtin copy at elements of several cells, onto a row of the call's own. Of whatever program. -/
namespace Go.Mh
open Go.RowKit
theorem run_copyN {P : Program} (w : World) (dT sT ty elem : TypeId) (sz g o dLen dCap : Nat) (a : Addr) (sLen sCap : Nat) (cur : Array Value) (t : TypeId) (cs : List Value) (n : Nat)
    (hu : P.underlying dT = some (.slice elem)) (hs : (P.info? elem).map (·.size) = some sz)
    (hg : w.heap[g]? = some (.cells cur t (0, 0))) (hn : n = Nat.min sLen dLen) (hcs : cs.length = n * sz)
    (hsrc : ∀ j v, cs[j]? = some v → w.cell? (a.add j) = some v) (hfit : o + cs.length ≤ cur.size) (h1 : ∀ v ∈ cs, v.oneCell' = true) :
    (Builtin.copy_ #[dT, sT] ty #[.slice (some ⟨g, o, none⟩) dLen dCap, .slice (some a) sLen sCap]).run P w =
      .ok (goInt n) (w.setRow g (cur.toList.take o ++ cs ++ cur.toList.drop (o + cs.length)).toArray) := by
  have hf := run_firstCells_some (P := P) w sz n a sLen sCap cs hcs hsrc
  have hst := run_storeCells_at P g o t cs 0 cur w hg (by simpa using hfit) h1
  cases hq : P.info? elem with
  | none => simp [hq] at hs
  | some i =>
    have hi : i.size = sz := by simpa [hq] using hs
    simp [Builtin.copy_, run_underlying hu, Builtin.lenOf, sizeOf, typeInfo, hq, hi, ← hn, hf, hst]
theorem wpList_copyN {P : Program} {w : World} {ops : Array Oper} {rest : List Oper} {o : Oper} {a : Act} {Q : Exit → Act → World → Prop} (hgd : o.guard = none) (d s : Operand) (dT sT : TypeId)
    (ho : o.op = .call { callee := .builtin .copy, args := #[d, s], argTypes := #[dT, sT] }) (elem : TypeId) (sz : Nat) (hu : P.underlying dT = some (.slice elem)) (hsz : (P.info? elem).map (·.size) = some sz)
    (g off dLen dCap : Nat) (ad : Addr) (sLen sCap : Nat) (hd : a.eval d = .slice (some ⟨g, off, none⟩) dLen dCap) (hs : a.eval s = .slice (some ad) sLen sCap)
    (cur : Array Value) (t : TypeId) (hg : w.heap[g]? = some (.cells cur t (0, 0))) (cs : List Value) (n : Nat) (hn : n = Nat.min sLen dLen) (hcs : cs.length = n * sz)
    (hsrc : ∀ j v, cs[j]? = some v → w.cell? (ad.add j) = some v) (hfit : off + cs.length ≤ cur.size) (h1 : ∀ v ∈ cs, v.oneCell' = true)
    (h : wpList P ops Q rest (a.put o.dst (goInt n)) (w.setRow g (cur.toList.take off ++ cs ++ cur.toList.drop (off + cs.length)).toArray)) : wpList P ops Q (o :: rest) a w := by
  refine wpList_plain hgd fun K hK => ?_
  have hrun := run_copyN (P := P) w dT sT o.type elem sz g off dLen dCap ad sLen sCap cur t cs n hu hsz hg hn hcs hsrc hfit h1
  unfold Oper.wp
  simp only [execOp, ho, resolve, invoke, builtin, Sem.run_bind, Sem.run_pure, Result.andThen_ok, List.map_toArray, List.map_cons, List.map_nil, hd, hs, hrun]
  exact hK _ _ h
theorem step_copyN {P : Program} {ops : Array Oper} {o : Oper} {a : Act} {w : World} {K : Act → World → Prop} {Q : Exit → Act → World → Prop} {E : Prop} (hgd : o.guard = none) (d s : Operand) (dT sT : TypeId)
    (ho : o.op = .call { callee := .builtin .copy, args := #[d, s], argTypes := #[dT, sT] }) (elem : TypeId) (sz : Nat) (hu : P.underlying dT = some (.slice elem)) (hsz : (P.info? elem).map (·.size) = some sz)
    (g off dLen dCap : Nat) (ad : Addr) (sLen sCap : Nat) (hd : a.eval d = .slice (some ⟨g, off, none⟩) dLen dCap) (hs : a.eval s = .slice (some ad) sLen sCap)
    (cur : Array Value) (t : TypeId) (hg : w.heap[g]? = some (.cells cur t (0, 0))) (cs : List Value) (n : Nat) (hn : n = Nat.min sLen dLen) (hcs : cs.length = n * sz)
    (hsrc : ∀ j v, cs[j]? = some v → w.cell? (ad.add j) = some v) (hfit : off + cs.length ≤ cur.size) (h1 : ∀ v ∈ cs, v.oneCell' = true)
    (h : K (a.put o.dst (goInt n)) (w.setRow g (cur.toList.take off ++ cs ++ cur.toList.drop (off + cs.length)).toArray)) :
    if Region.wanted o (yielded ops a.tmps) = true then Oper.wp P o a w K Q else E := by
  have hw : Region.wanted o (yielded ops a.tmps) = true := by simp [Region.wanted, hgd]
  rw [if_pos hw]
  have hrun := run_copyN (P := P) w dT sT o.type elem sz g off dLen dCap ad sLen sCap cur t cs n hu hsz hg hn hcs hsrc hfit h1
  unfold Oper.wp
  simp only [execOp, ho, resolve, invoke, builtin, Sem.run_bind, Sem.run_pure, Result.andThen_ok, List.map_toArray, List.map_cons, List.map_nil, hd, hs, hrun]
  exact h
end Go.Mh
/- Two rows of acts of the call's own, side by side: what is appended to the one leaves the other. -/
namespace Go.Proofs.YtckdlhgeelhnmaaGreat
open Go.RowKit Go.Mh

structure TwoA (B : Nat) (w : World) (lv mv : Value) (X Y : List Ac) : Prop where
  l : OwnA B w lv X
  m : OwnA B w mv Y
  ne : ∀ k, lv.ownBlock = some k → mv.ownBlock ≠ some k
  hB : B ≤ w.heap.size
section
variable {B : Nat} {w w' : World} {lv mv : Value} {X Y : List Ac}
theorem TwoA.symm (T : TwoA B w lv mv X Y) : TwoA B w mv lv Y X := ⟨T.m, T.l, fun k hk hl => T.ne k hl hk, T.hB⟩
theorem TwoA.below (T : TwoA B w lv mv X Y) (hb : Below w.heap.size w w') : TwoA B w' lv mv X Y := ⟨T.l.to hb, T.m.to hb, T.ne, Nat.le_trans T.hB hb.size⟩
theorem TwoA.start (h : B ≤ w.heap.size) : TwoA B w (.slice none 0 0) (.slice none 0 0) [] [] := ⟨OwnS.nil, OwnS.nil, fun k hk => by simp [Value.ownBlock] at hk, h⟩
theorem TwoA.app (T : TwoA B w lv mv X Y) {v' : Value} {M : List Ac} (h1 : OwnA B w' v' (X ++ M)) (h2 : w.grownBy w' lv.ownBlock) (h4 : v'.ownBlock = lv.ownBlock ∨ v'.ownBlock = some w.heap.size) : TwoA B w' v' mv (X ++ M) Y := by
  refine ⟨h1, OwnS.to T.m ?_ (fun _ _ _ r => r), ?_, Nat.le_trans T.hB h2.size⟩
  · intro k hk hl
    exact h2.block k hl (fun e => T.ne k e.symm hk)
  · intro k hk hm
    rcases h4 with h4 | h4
    · exact T.ne k (h4 ▸ hk) hm
    · have := (own_ge T.m hm).2.1
      rw [h4] at hk
      have := Option.some.inj hk
      omega
end
theorem stepTwo {ops : Array Oper} {o : Oper} {a : Act} {w : World} {K : Act → World → Prop} {Q : Exit → Act → World → Prop} {E : Prop} (hgd : o.guard = none) (s x : Operand)
    (hop : o.op = .call { callee := .builtin .append, args := #[s, x], argTypes := #[109, 109] })
    {B : Nat} {lv mv : Value} {X Y : List Ac} (T : TwoA B w lv mv X Y) (hs : a.eval s = lv) {F : Nat → Prop} {M : List Ac} (xv : Value) (hx : a.eval x = xv) (hsrc : RActs F w xv M) (hlen : X.length + M.length ≤ 100000)
    (hK : ∀ v' w', TwoA B w' v' mv (X ++ M) Y → Below B w w' → w.grownBy w' lv.ownBlock → K (a.put o.dst v') w') :
    if Region.wanted o (yielded ops a.tmps) = true then Oper.wp Tryz.prog o a w K Q else E := by
  have hw : Region.wanted o (yielded ops a.tmps) = true := by simp [Region.wanted, hgd]
  rw [if_pos hw]
  obtain ⟨v', w', hrun, h1, h2, h3, h4⟩ := run_app (P := Tryz.prog) (w := w) 109 o.type B 114 11 120 _ elActs RAc lv X M T.l F xv hsrc RAc_one (by unfold maxLen; omega) (by omega) T.hB (fun _ _ _ _ _ r => r)
  unfold Oper.wp
  simp [execOp, hop, resolve, invoke, builtin, hs, hx, hrun, Result.andThen]
  exact hK v' w' (T.app h1 h2 h4) h3 h2
theorem wpListTwo {w : World} {ops : Array Oper} {rest : List Oper} {o : Oper} {a : Act} {Q : Exit → Act → World → Prop} (hgd : o.guard = none) (s x : Operand)
    (hop : o.op = .call { callee := .builtin .append, args := #[s, x], argTypes := #[109, 109] })
    {B : Nat} {lv mv : Value} {X Y : List Ac} (T : TwoA B w lv mv X Y) (hs : a.eval s = lv) {F : Nat → Prop} {M : List Ac} (xv : Value) (hx : a.eval x = xv) (hsrc : RActs F w xv M) (hlen : X.length + M.length ≤ 100000)
    (hK : ∀ v' w', TwoA B w' v' mv (X ++ M) Y → Below B w w' → w.grownBy w' lv.ownBlock → wpList Tryz.prog ops Q rest (a.put o.dst v') w') : wpList Tryz.prog ops Q (o :: rest) a w := by
  refine wpList_plain hgd fun K hK' => ?_
  obtain ⟨v', w', hrun, h1, h2, h3, h4⟩ := run_app (P := Tryz.prog) (w := w) 109 o.type B 114 11 120 _ elActs RAc lv X M T.l F xv hsrc RAc_one (by unfold maxLen; omega) (by omega) T.hB (fun _ _ _ _ _ r => r)
  unfold Oper.wp
  simp [execOp, hop, resolve, invoke, builtin, hs, hx, hrun, Result.andThen]
  exact hK' _ _ (hK v' w' (T.app h1 h2 h4) h3 h2)
end Go.Proofs.YtckdlhgeelhnmaaGreat
/- Three boxes beside two rows of acts; two operations of a drawn region that may come up in either order; an act's cells by their kinds. -/
namespace Go.Mh
open Go
section
variable {P : Program} {ops : Array Oper} {Q : Exit → Act → World → Prop} {md : Region.Mode} {S : World → Prop}
/-- Two operations may come up, in either order: what they leave behind is said once. -/
theorem wpAnyH_two (i j di dj : Nat) {oi oj : Oper} {fuel : Nat} {listed : Array Bool} {l : List Value} {df : List _} {w : World} (hi : ops[i]? = some oi) (hj : ops[j]? = some oj) (hne : di ≠ dj)
    (hr : Region.ready md ops listed = [i, j]) (hri : Region.ready md ops (listed.setIfInBounds i true) = [j]) (hrj : Region.ready md ops (listed.setIfInBounds j true) = [i]) (hij : i ≠ j)
    (A B : Value → World → Prop) (I : Value → Value → World → Prop)
    (h1 : ∀ K' : Act → World → Prop, Shut (∀ v w', S w' → A v w' → K' ⟨(l.set di v).toArray, df⟩ w') → if Region.wanted oi (yielded ops l.toArray) = true then Oper.wp P oi ⟨l.toArray, df⟩ w K' Q else K' ((⟨l.toArray, df⟩ : Act).put oi.dst undef) w)
    (h2 : ∀ v w', A v w' → ∀ K' : Act → World → Prop, Shut (∀ u w'', S w'' → I v u w'' → K' ⟨((l.set di v).set dj u).toArray, df⟩ w'') → if Region.wanted oj (yielded ops (l.set di v).toArray) = true then Oper.wp P oj ⟨(l.set di v).toArray, df⟩ w' K' Q else K' ((⟨(l.set di v).toArray, df⟩ : Act).put oj.dst undef) w')
    (h3 : ∀ K' : Act → World → Prop, Shut (∀ u w', S w' → B u w' → K' ⟨(l.set dj u).toArray, df⟩ w') → if Region.wanted oj (yielded ops l.toArray) = true then Oper.wp P oj ⟨l.toArray, df⟩ w K' Q else K' ((⟨l.toArray, df⟩ : Act).put oj.dst undef) w)
    (h4 : ∀ u w', B u w' → ∀ K' : Act → World → Prop, Shut (∀ v w'', S w'' → I v u w'' → K' ⟨((l.set dj u).set di v).toArray, df⟩ w'') → if Region.wanted oi (yielded ops (l.set dj u).toArray) = true then Oper.wp P oi ⟨(l.set dj u).toArray, df⟩ w' K' Q else K' ((⟨(l.set dj u).toArray, df⟩ : Act).put oi.dst undef) w')
    (h : ∀ v u w', I v u w' → S w' → wpAnyH P md ops Q S fuel ((listed.setIfInBounds i true).setIfInBounds j true) ⟨((l.set di v).set dj u).toArray, df⟩ w') :
    wpAnyH P md ops Q S (fuel + 2) listed ⟨l.toArray, df⟩ w := by
  refine ⟨fun h0 => by (rw [hr] at h0; cases h0), fun k hk => ?_⟩
  rw [hr] at hk
  rcases (by simpa using hk : k = i ∨ k = j) with rfl | rfl
  · refine wpOp_step hi fun K' hK => h1 K' fun v w' hS hA => hK _ w' ⟨hS, ?_⟩
    refine wpAnyH_step j hj hri fun K'' hK2 => h2 v w' hA K'' fun u w'' hS' hI => hK2.out _ _ hS' (h v u w'' hI hS')
  · refine wpOp_step hj fun K' hK => h3 K' fun u w' hS hB => hK _ w' ⟨hS, ?_⟩
    refine wpAnyH_step i hi hrj fun K'' hK2 => h4 u w' hB K'' fun v w'' hS' hI => hK2.out _ _ hS' ?_
    have := h v u w'' hI hS'
    rwa [Array.setIfInBounds_comm _ _ hij, List.set_comm _ _ hne] at this
end
open Go.RowKit
/-- A new block, and two. -/
structure New1 (w0 : World) (T : TypeId) (Z : Array Value) (g : Nat) (w : World) : Prop where
  hg : w.heap[g]? = some (.cells Z T (0, 0))
  ge : w0.heap.size ≤ g
  hb : Below w0.heap.size w0 w
structure New2 (w0 : World) (T : TypeId) (Z : Array Value) (g1 g2 : Nat) (w : World) : Prop where
  h1 : w.heap[g1]? = some (.cells Z T (0, 0))
  h2 : w.heap[g2]? = some (.cells Z T (0, 0))
  ge1 : w0.heap.size ≤ g1
  ge2 : w0.heap.size ≤ g2
  ne : g1 ≠ g2
  hb : Below w0.heap.size w0 w
theorem New1.mk' {w0 w : World} (hb : Below w0.heap.size w0 w) (T : TypeId) (Z : Array Value) : New1 w0 T Z w.heap.size (w.alloc (.cells Z T)) := ⟨heap_new w _, hb.size, bal hb _⟩
theorem New1.two {w0 w : World} {T : TypeId} {Z : Array Value} {g : Nat} (h : New1 w0 T Z g w) : New2 w0 T Z g w.heap.size (w.alloc (.cells Z T)) :=
  ⟨((bal (brf w) _).block g (lt_of_heap h.hg)).trans h.hg, heap_new w _, h.ge, h.hb.size, Nat.ne_of_lt (lt_of_heap h.hg), bal h.hb _⟩
theorem New2.symm {w0 w : World} {T : TypeId} {Z : Array Value} {g1 g2 : Nat} (h : New2 w0 T Z g1 g2 w) : New2 w0 T Z g2 g1 w := ⟨h.h2, h.h1, h.ge2, h.ge1, Ne.symm h.ne, h.hb⟩
end Go.Mh
namespace Go.Proofs.YtckdlhgeelhnmaaGreat
open Go.RowKit Go.Mh
/-- Three boxes: an act, ahead of B, and two rows. -/
structure Bx (B gk gs gt : Nat) (ck cs ct : Array Value) (w : World) : Prop where
  hk : w.heap[gk]? = some (.cells ck 114 (0, 0))
  hs : w.heap[gs]? = some (.cells cs 124 (0, 0))
  ht : w.heap[gt]? = some (.cells ct 124 (0, 0))
  lk : gk < B
section
variable {B gk gs gt : Nat} {ck cs ct : Array Value} {w w' : World} {lv mv : Value} {X Y : List Ac}
theorem Bx.below (h : Bx B gk gs gt ck cs ct w) (hb : Below w.heap.size w w') : Bx B gk gs gt ck cs ct w' :=
  ⟨(hb.block _ (lt_of_heap h.hk)).trans h.hk, (hb.block _ (lt_of_heap h.hs)).trans h.hs, (hb.block _ (lt_of_heap h.ht)).trans h.ht, h.lk⟩
theorem Bx.grown (h : Bx B gk gs gt ck cs ct w) (T : TwoA B w lv mv X Y) (hg : w.grownBy w' lv.ownBlock) : Bx B gk gs gt ck cs ct w' :=
  ⟨(hg.block _ (lt_of_heap h.hk) (fun e => by have := (own_ge T.l e.symm).1; have := h.lk; omega)).trans h.hk,
   (hg.block _ (lt_of_heap h.hs) (T.l.ne h.hs (by decide))).trans h.hs, (hg.block _ (lt_of_heap h.ht) (T.l.ne h.ht (by decide))).trans h.ht, h.lk⟩
theorem cell_of {g T : Nat} {cs : Array Value} {fr : Nat × Nat} (h : w.heap[g]? = some (.cells cs T fr)) (i : Nat) (v : Value) (hv : cs[i]? = some v) : w.cell? ⟨g, i, none⟩ = some v := by
  unfold World.cell?; rw [h]; exact hv
theorem fz_of {g T : Nat} {cs : Array Value} (h : w.heap[g]? = some (.cells cs T (0, 0))) (i : Nat) : w.frozen? ⟨g, i, none⟩ = false := by simp [World.frozen?, h]
/-- A row of one act, in a block that is no own row's. -/
theorem RActs.grown {g : Nat} {u : Value} {M : List Ac} (h : RActs (· = g) w u M) (hgw : ∀ k, lv.ownBlock = some k → k ≠ g) (hg : w.grownBy w' lv.ownBlock) : RActs (· = g) w' u M :=
  RActs.to h fun k hk hl => ⟨hk, hg.block k hl (fun e => hgw k e.symm hk)⟩
end
end Go.Proofs.YtckdlhgeelhnmaaGreat
/- The references on operations: rows: of each item what is put ahead of it, and what is done to it. -/
namespace Go.Mh
open Go.RowKit
/-- A row: what is put ahead, and what is done. -/
def RRow (F : Nat → Prop) (w : World) (cs : List Value) (r : Row) : Prop := ∃ pv cs2, cs = pv :: cs2 ∧ RActs F w pv r.1 ∧ RAc w cs2 r.2
theorem RRow.to {F F' : Nat → Prop} {w w' : World} {cs : List Value} {r : Row} (h : RRow F w cs r) (hk : Kp F F' w w') : RRow F' w' cs r := by
  obtain ⟨pv, cs2, e, h1, h2⟩ := h
  exact ⟨pv, cs2, e, RActs.to h1 hk, h2⟩
theorem RRow_one (F : Nat → Prop) : ∀ (w : World) (cs : List Value) (r : Row), RRow F w cs r → ∀ u ∈ cs, u.oneCell' = true := by
  rintro w _ r ⟨pv, cs2, rfl, h1, h2⟩ u hu
  rcases List.mem_cons.1 hu with rfl | hu
  · obtain ⟨a, c, rfl, _⟩ := h1; rfl
  · exact RAc_one w cs2 r.2 h2 u hu
abbrev RRows (F : Nat → Prop) := RdS 12 (RRow F) F
theorem rowsA_step {A : List Ac} {j : Nat} {x : Ac} (hx : A[j]? = some x) (ps : List Ac) : rowsA ps (A.drop j) = rowsA ps (x :: A.drop (j + 1)) := by
  obtain ⟨hlt, rfl⟩ := List.getElem?_eq_some_iff.1 hx
  rw [List.drop_eq_getElem_cons hlt]
end Go.Mh
namespace Go.Proofs.YtckdlhgeelhnmaaGreat
open Go.RowKit Go.Mh

theorem elRows : El Tryz.prog 121 124 12 144 (.agg #[.slice none 0 0, .int .i64 0, .int .u8 0, .int .i64 0, .string ⟨#[]⟩, .int .i64 0, .int .i64 0, .slice none 0 0, .int .i64 0, .int .i64 0, .bool false, .string ⟨#[]⟩]) := ⟨Tryz.underlying121, by kernel_rfl, rfl, by decide⟩
/-- A row whose acts lie in rows of acts, made since B and ahead of b. -/
def RRb (B b : Nat) (w : World) (cs : List Value) (r : Row) : Prop := RRow (fun k => B ≤ k ∧ k < b ∧ Ty 114 w k) w cs r
theorem RRb.keep {B b b' : Nat} {w w' : World} {cs : List Value} {r : Row} (h : RRb B b w cs r) (hbb : b ≤ b') (hk : ∀ k, k < b → Ty 114 w k → w'.heap[k]? = w.heap[k]?) : RRb B b' w' cs r :=
  RRow.to h fun k ⟨h1, h2, hT⟩ _ => ⟨⟨h1, by omega, tyto hT (hk k h2 hT)⟩, hk k h2 hT⟩
theorem RRb_one (B b : Nat) : ∀ (w : World) (cs : List Value) (r : Row), RRb B b w cs r → ∀ u ∈ cs, u.oneCell' = true := fun w cs r h => RRow_one _ w cs r h
abbrev OwnRw (B b : Nat) (w : World) (v : Value) (L : List Row) : Prop := OwnS B 124 12 (RRb B b) w v L

set_option maxRecDepth 100000 in
set_option maxHeartbeats 8000000 in
theorem refRows_any (G : Nat → Prop) (u : Value) (L : List Pt) (w : World) (g : ROp G w u L) (hok : OpOk L) :
    Calls Tryz.prog 95 #[u] w fun e w' => ∃ r, e = .returned r ∧ RRows (w.heap.size ≤ ·) w' r (rowsA [] (acts L)) ∧ Below w.heap.size w w' := by
  obtain ⟨a', cap', rfl, hn'⟩ := RdS.len g
  have C := Lib.hid (refActs_any G _ L w g hok)
  have hlen : (acts L).length ≤ 4000 := by have h := acts_len hok L.length (Nat.le_refl _); have := hok.len; rw [List.take_length] at h; omega
  clear g
  generalize hAq : acts L = A at *
  have hAe := Lib.hid hAq
  clear hAq
  go_enter Tryz.func95, Tryz.ntmps95
  go_wp2_with fail
  refine C.out.mono ?_
  rintro e w1 ⟨r1, rfl, hr1, hb1⟩
  obtain ⟨ra, rc, rfl⟩ := len_nil hr1
  have HA := Lib.hid hr1.rd
  clear hr1 C
  go_wp2
  go_loopw [3, 4, 10] (fun ov pv jv ws => ∃ (j : Nat) (out : List Row) (ps : List Ac) (b : Nat), j ≤ A.length ∧ jv = .int .i64 j ∧ OwnRw w1.heap.size b ws ov out ∧ OwnS b 114 11 RAc ws pv ps ∧ Hid (rowsA [] A = out ++ rowsA ps (A.drop j)) ∧ out.length ≤ j ∧ ps.length ≤ j ∧ w1.heap.size ≤ b ∧ b ≤ ws.heap.size ∧ Below w1.heap.size w1 ws) (fun _ _ jv _ => A.length - (intOf jv).toNat)
  case atStart => exact ⟨0, [], [], w1.heap.size, Nat.zero_le _, rfl, OwnS.nil, OwnS.nil, Lib.hid (by simp), by simp, by simp, Nat.le_refl _, Nat.le_refl _, brf _⟩
  case round =>
    obtain ⟨j, out, ps, b, hj, rfl, hown, hP, hst, hol, hpl, hBb, hbs, hb⟩ := hrel
    obtain ⟨oa, oc, rfl⟩ := len_nil hown
    obtain ⟨pa, pc, rfl⟩ := len_nil hP
    have O1 := Lib.hid hown
    have P1 := Lib.hid hP
    clear hown hP
    by_cases hlt : j < A.length
    · obtain ⟨x, hx⟩ : ∃ x, A[j]? = some x := ⟨_, List.getElem?_eq_getElem hlt⟩
      obtain ⟨b0, o0, sv, rfl, hE, hb0, hcell⟩ := RActs.at HA.out hb hx
      have hs := Lib.hid (hst.out.trans (congrArg (out ++ ·) (rowsA_step hx ps)))
      obtain ⟨sa, sc, rfl, hsm⟩ := hE
      clear hst hx
      cases x with
      | put x =>
        have c0 : wr.cell? ⟨b0, o0 + j * 11, none⟩ = some _ := hcell 0 _ rfl
        have c1 := hcell 1 _ rfl
        have c2 := hcell 2 _ rfl
        have c3 := hcell 3 _ rfl
        have c4 := hcell 4 _ rfl
        have c5 := hcell 5 _ rfl
        have c6 := hcell 6 _ rfl
        have c7 := hcell 7 _ rfl
        have c8 := hcell 8 _ rfl
        have c9 := hcell 9 _ rfl
        have c10 := hcell 10 _ rfl
        clear hcell
        have hs1 := hs.out.trans (rfl : _ = out ++ rowsA (ps ++ [.put x]) (A.drop (j + 1)))
        obtain ⟨p9, q9⟩ : ∃ o, ps ++ [Ac.put x] = o := ⟨_, rfl⟩
        have hl9 : p9.length ≤ j + 1 := by rw [← q9]; simp; omega
        rw [q9] at hs1
        have hs2 := Lib.hid hs1
        have E9 := Lib.hid q9
        have hbw := bal (brf wr) (.cells #[.int .i64 2, .int .u8 x.c.toNat, .int .i64 x.m, str x.l, .int .i64 0, .int .i64 0, .slice none 0 0, .int .i64 0, .int .i64 0, .bool false, .string ⟨#[]⟩] 114)
        have P2 := Lib.hid (P1.out.below hbw fun _ _ _ r => r)
        have O2 := Lib.hid (O1.out.to (R' := RRb w1.heap.size b) (fun k _ hl => hbw.block k hl) fun _ _ _ r => r.keep (Nat.le_refl _) fun k hk _ => hbw.block k (by omega))
        have hB2 : Below w1.heap.size w1 (wr.alloc (.cells #[.int .i64 2, .int .u8 x.c.toNat, .int .i64 x.m, str x.l, .int .i64 0, .int .i64 0, .slice none 0 0, .int .i64 0, .int .i64 0, .bool false, .string ⟨#[]⟩] 114)) := bal hb _
        have hbs2 := Nat.le_trans hbs hbw.size
        clear hs1 q9 hs O1 P1 hbw
        go_wp2_with (at_builtin; refine wpList_app1 rfl (.tmp 17) (.tmp 19) 109 rfl b 114 11 120 _ elActs RAc _ ps rfl P2.out (.put x) [.int .i64 2, .int .u8 x.c.toNat, .int .i64 x.m, str x.l, .int .i64 0, .int .i64 0, .slice none 0 0, .int .i64 0, .int .i64 0, .bool false, .string ⟨#[]⟩] 114 _ rfl (by first | rfl | simp) rfl (fun _ _ => ⟨.slice none 0 0, E0.nil, rfl⟩) RAc_one (by unfold maxLen; omega) (by omega) hbs2 (fun _ _ _ _ _ r => r) ?_; intro v9 w9 ho9 hb9 hz9 hk9; rw [E9.out] at ho9; obtain ⟨pa9, pc9, rfl⟩ := len_nil ho9)
        have O3 : OwnRw w1.heap.size b w9 (.slice oa out.length oc) out := O2.out.to (fun k hke hkl => hk9 k hkl (by
          obtain ⟨_, _, xs, fr, e⟩ := own_ge O2.out hke
          exact P2.out.ne e (by decide))) fun _ _ _ r => r.keep (Nat.le_refl _) fun k hk _ => hb9.block k hk
        go_wp2
        go_roundw
        case rel => exact ⟨j + 1, out, p9, b, by omega, by go_num, O3, ho9, hs2, by omega, hl9, hBb, Nat.le_trans hbs2 (Nat.le_of_lt hz9), hB2.trans (hb9.mono hBb)⟩
        case measure => simp [intOf]; omega
      | cut =>
        have c0 : wr.cell? ⟨b0, o0 + j * 11, none⟩ = some _ := hcell 0 _ rfl
        have c1 := hcell 1 _ rfl
        have c2 := hcell 2 _ rfl
        have c3 := hcell 3 _ rfl
        have c4 := hcell 4 _ rfl
        have c5 := hcell 5 _ rfl
        have c6 := hcell 6 _ rfl
        have c7 := hcell 7 _ rfl
        have c8 := hcell 8 _ rfl
        have c9 := hcell 9 _ rfl
        have c10 := hcell 10 _ rfl
        clear hcell
        have hs1 := hs.out.trans (by simp [rowsA] : _ = (out ++ [(ps, Ac.cut)]) ++ rowsA [] (A.drop (j + 1)))
        obtain ⟨o9, q9⟩ : ∃ o, out ++ [(ps, Ac.cut)] = o := ⟨_, rfl⟩
        have hl9 : o9.length ≤ j + 1 := by rw [← q9]; simp; omega
        rw [q9] at hs1
        have hs2 := Lib.hid hs1
        have E9 := Lib.hid q9
        have hbw := bal (brf wr) (.cells #[.int .i64 3, .int .u8 0, .int .i64 0, .string ⟨#[]⟩, .int .i64 3, .int .i64 1, .slice sa 0 sc, .int .i64 0, .int .i64 0, .bool false, str []] 114)
        have P2 := P1.out.below hbw fun _ _ _ r => r
        have O2 : OwnRw w1.heap.size (wr.alloc (.cells #[.int .i64 3, .int .u8 0, .int .i64 0, .string ⟨#[]⟩, .int .i64 3, .int .i64 1, .slice sa 0 sc, .int .i64 0, .int .i64 0, .bool false, str []] 114)).heap.size (wr.alloc (.cells #[.int .i64 3, .int .u8 0, .int .i64 0, .string ⟨#[]⟩, .int .i64 3, .int .i64 1, .slice sa 0 sc, .int .i64 0, .int .i64 0, .bool false, str []] 114)) (.slice oa out.length oc) out := O1.out.to (fun k _ hl => hbw.block k hl) fun _ _ _ r => r.keep (Nat.le_trans hbs hbw.size) fun k hk _ => hbw.block k (by omega)
        have R2 : RRb w1.heap.size (wr.alloc (.cells #[.int .i64 3, .int .u8 0, .int .i64 0, .string ⟨#[]⟩, .int .i64 3, .int .i64 1, .slice sa 0 sc, .int .i64 0, .int .i64 0, .bool false, str []] 114)).heap.size (wr.alloc (.cells #[.int .i64 3, .int .u8 0, .int .i64 0, .string ⟨#[]⟩, .int .i64 3, .int .i64 1, .slice sa 0 sc, .int .i64 0, .int .i64 0, .bool false, str []] 114)) [.slice pa ps.length pc, .int .i64 3, .int .u8 0, .int .i64 0, .string ⟨#[]⟩, .int .i64 3, .int .i64 1, .slice sa 0 sc, .int .i64 0, .int .i64 0, .bool false, str []] (ps, Ac.cut) :=
          ⟨_, _, rfl, RActs.to P2.rdN (fun k hke hkl => ⟨⟨by have := (own_ge P2 hke).1; omega, hkl, (own_ge P2 hke).2.2⟩, rfl⟩), ⟨.slice sa 0 sc, ⟨_, _, rfl, hsm⟩, rfl⟩⟩
        have hB2 : Below w1.heap.size w1 (wr.alloc (.cells #[.int .i64 3, .int .u8 0, .int .i64 0, .string ⟨#[]⟩, .int .i64 3, .int .i64 1, .slice sa 0 sc, .int .i64 0, .int .i64 0, .bool false, str []] 114)) := bal hb _
        have O2' := Lib.hid O2
        have R2' := Lib.hid R2
        clear hs1 q9 hs O1 P1 P2 O2 R2 hbw
        go_wp2_with (at_builtin; refine wpList_appK rfl (.tmp 21) (.tmp 25) 121 rfl w1.heap.size 124 12 144 _ elRows (RRb w1.heap.size (wr.alloc (.cells #[.int .i64 3, .int .u8 0, .int .i64 0, .string ⟨#[]⟩, .int .i64 3, .int .i64 1, .slice sa 0 sc, .int .i64 0, .int .i64 0, .bool false, str []] 114)).heap.size) _ out rfl O2'.out (ps, Ac.cut) [.slice pa ps.length pc, .int .i64 3, .int .u8 0, .int .i64 0, .string ⟨#[]⟩, .int .i64 3, .int .i64 1, .slice sa 0 sc, .int .i64 0, .int .i64 0, .bool false, str []] 124 _ rfl (by first | rfl | simp) rfl R2'.out (RRb_one _ _) (by unfold maxLen; omega) (by omega) hB2.size (fun w' _ hk cs x r => r.keep (Nat.le_refl _) fun k hkb hT => hk k hkb (by obtain ⟨xs, fr, e⟩ := hT; exact O2'.out.ne e (by decide))) ?_; intro v9 w9 ho9 hb9 hz9 hk9; rw [E9.out] at ho9; obtain ⟨oa9, oc9, rfl⟩ := len_nil ho9)
        go_wp2
        go_roundw
        case rel => exact ⟨j + 1, o9, [], _, by omega, by go_num, ho9, OwnS.nil, hs2, hl9, by simp, hB2.size, Nat.le_of_lt hz9, hB2.trans hb9⟩
        case measure => simp [intOf]; omega
      | keep d =>
        obtain ⟨s, z, t, lk⟩ := d
        have c0 : wr.cell? ⟨b0, o0 + j * 11, none⟩ = some _ := hcell 0 _ rfl
        have c1 := hcell 1 _ rfl
        have c2 := hcell 2 _ rfl
        have c3 := hcell 3 _ rfl
        have c4 := hcell 4 _ rfl
        have c5 := hcell 5 _ rfl
        have c6 := hcell 6 _ rfl
        have c7 := hcell 7 _ rfl
        have c8 := hcell 8 _ rfl
        have c9 := hcell 9 _ rfl
        have c10 := hcell 10 _ rfl
        clear hcell
        have hs1 := hs.out.trans (by simp [rowsA] : _ = (out ++ [(ps, Ac.keep ⟨s, z, t, lk⟩)]) ++ rowsA [] (A.drop (j + 1)))
        obtain ⟨o9, q9⟩ : ∃ o, out ++ [(ps, Ac.keep ⟨s, z, t, lk⟩)] = o := ⟨_, rfl⟩
        have hl9 : o9.length ≤ j + 1 := by rw [← q9]; simp; omega
        rw [q9] at hs1
        have hs2 := Lib.hid hs1
        have E9 := Lib.hid q9
        have hbw := bal (brf wr) (.cells #[.int .i64 1, .int .u8 0, .int .i64 0, .string ⟨#[]⟩, .int .i64 1, .int .i64 1, .slice sa 0 sc, .int .i64 s, .int .i64 z, .bool t, str lk] 114)
        have P2 := P1.out.below hbw fun _ _ _ r => r
        have O2 : OwnRw w1.heap.size (wr.alloc (.cells #[.int .i64 1, .int .u8 0, .int .i64 0, .string ⟨#[]⟩, .int .i64 1, .int .i64 1, .slice sa 0 sc, .int .i64 s, .int .i64 z, .bool t, str lk] 114)).heap.size (wr.alloc (.cells #[.int .i64 1, .int .u8 0, .int .i64 0, .string ⟨#[]⟩, .int .i64 1, .int .i64 1, .slice sa 0 sc, .int .i64 s, .int .i64 z, .bool t, str lk] 114)) (.slice oa out.length oc) out := O1.out.to (fun k _ hl => hbw.block k hl) fun _ _ _ r => r.keep (Nat.le_trans hbs hbw.size) fun k hk _ => hbw.block k (by omega)
        have R2 : RRb w1.heap.size (wr.alloc (.cells #[.int .i64 1, .int .u8 0, .int .i64 0, .string ⟨#[]⟩, .int .i64 1, .int .i64 1, .slice sa 0 sc, .int .i64 s, .int .i64 z, .bool t, str lk] 114)).heap.size (wr.alloc (.cells #[.int .i64 1, .int .u8 0, .int .i64 0, .string ⟨#[]⟩, .int .i64 1, .int .i64 1, .slice sa 0 sc, .int .i64 s, .int .i64 z, .bool t, str lk] 114)) [.slice pa ps.length pc, .int .i64 1, .int .u8 0, .int .i64 0, .string ⟨#[]⟩, .int .i64 1, .int .i64 1, .slice sa 0 sc, .int .i64 s, .int .i64 z, .bool t, str lk] (ps, Ac.keep ⟨s, z, t, lk⟩) :=
          ⟨_, _, rfl, RActs.to P2.rdN (fun k hke hkl => ⟨⟨by have := (own_ge P2 hke).1; omega, hkl, (own_ge P2 hke).2.2⟩, rfl⟩), ⟨.slice sa 0 sc, ⟨_, _, rfl, hsm⟩, rfl⟩⟩
        have hB2 : Below w1.heap.size w1 (wr.alloc (.cells #[.int .i64 1, .int .u8 0, .int .i64 0, .string ⟨#[]⟩, .int .i64 1, .int .i64 1, .slice sa 0 sc, .int .i64 s, .int .i64 z, .bool t, str lk] 114)) := bal hb _
        have O2' := Lib.hid O2
        have R2' := Lib.hid R2
        clear hs1 q9 hs O1 P1 P2 O2 R2 hbw
        go_wp2_with (at_builtin; refine wpList_appK rfl (.tmp 21) (.tmp 25) 121 rfl w1.heap.size 124 12 144 _ elRows (RRb w1.heap.size (wr.alloc (.cells #[.int .i64 1, .int .u8 0, .int .i64 0, .string ⟨#[]⟩, .int .i64 1, .int .i64 1, .slice sa 0 sc, .int .i64 s, .int .i64 z, .bool t, str lk] 114)).heap.size) _ out rfl O2'.out (ps, Ac.keep ⟨s, z, t, lk⟩) [.slice pa ps.length pc, .int .i64 1, .int .u8 0, .int .i64 0, .string ⟨#[]⟩, .int .i64 1, .int .i64 1, .slice sa 0 sc, .int .i64 s, .int .i64 z, .bool t, str lk] 124 _ rfl (by first | rfl | simp) rfl R2'.out (RRb_one _ _) (by unfold maxLen; omega) (by omega) hB2.size (fun w' _ hk cs x r => r.keep (Nat.le_refl _) fun k hkb hT => hk k hkb (by obtain ⟨xs, fr, e⟩ := hT; exact O2'.out.ne e (by decide))) ?_; intro v9 w9 ho9 hb9 hz9 hk9; rw [E9.out] at ho9; obtain ⟨oa9, oc9, rfl⟩ := len_nil ho9)
        go_wp2
        go_roundw
        case rel => exact ⟨j + 1, o9, [], _, by omega, by go_num, ho9, OwnS.nil, hs2, hl9, by simp, hB2.size, Nat.le_of_lt hz9, hB2.trans hb9⟩
        case measure => simp [intOf]; omega
    · obtain rfl : j = A.length := by omega
      have hfin := Lib.hid (show rowsA [] A = out by rw [hst.out, List.drop_length]; simp [rowsA])
      have hzz := hb1.size
      have hR := Lib.hid (RdS.to (F' := (w.heap.size ≤ ·)) O1.out.rd (by decide) (fun k hk _ => ⟨Nat.le_trans hzz hk, rfl⟩) (fun cs x _ r => (RRow.to r fun k hk _ => ⟨Nat.le_trans hzz hk.1, rfl⟩ : RRow (w.heap.size ≤ ·) wr cs x)))
      go_wp2
      go_ret
      exact ⟨_, rfl, by rw [hfin.out]; exact hR.out, btr hb1 hb⟩
end Go.Proofs.YtckdlhgeelhnmaaGreat
/- slices.Repeat at one act. -/
namespace Go.Mh
open Go.RowKit
theorem rep_len {cs0 : List Value} (h0 : cs0.length = 11) (m : Nat) : ((List.replicate m cs0).flatten).length = m * 11 := by
  induction m with
  | zero => simp
  | succ m ih => simp [List.replicate_succ, ih, h0]; omega
theorem rep_add {cs0 : List Value} (a b : Nat) : (List.replicate (a + b) cs0).flatten = (List.replicate a cs0).flatten ++ (List.replicate b cs0).flatten := by
  rw [← List.flatten_append, List.replicate_append_replicate]
theorem rep_take {cs0 cur : List Value} {k m : Nat} (h0 : cs0.length = 11) (hm : m ≤ k) (ht : cur.take (k * 11) = (List.replicate k cs0).flatten) : cur.take (m * 11) = (List.replicate m cs0).flatten := by
  have e : cur.take (m * 11) = (cur.take (k * 11)).take (m * 11) := by rw [List.take_take, Nat.min_eq_left (by omega)]
  rw [e, ht]
  obtain ⟨d, rfl⟩ : ∃ d, k = m + d := ⟨k - m, by omega⟩
  rw [rep_add, List.take_left' (rep_len h0 m)]
theorem rep_step {cs0 cur : List Value} {n k m : Nat} (h0 : cs0.length = 11) (hs : cur.length = n * 11) (hm : m ≤ k) (hkm : k + m ≤ n) (ht : cur.take (k * 11) = (List.replicate k cs0).flatten) :
    (cur.take (m * 11)).length = m * 11 ∧ (cur.take (k * 11) ++ cur.take (m * 11) ++ cur.drop (k * 11 + (cur.take (m * 11)).length)).length = n * 11 ∧
    (cur.take (k * 11) ++ cur.take (m * 11) ++ cur.drop (k * 11 + (cur.take (m * 11)).length)).take ((k + m) * 11) = (List.replicate (k + m) cs0).flatten := by
  have l1 : (cur.take (m * 11)).length = m * 11 := by rw [List.length_take]; omega
  have l2 : (cur.take (k * 11)).length = k * 11 := by rw [List.length_take]; omega
  refine ⟨l1, by simp only [List.length_append, l1, l2, List.length_drop]; omega, ?_⟩
  rw [List.take_left' (by rw [List.length_append, l1, l2]; omega), ht, rep_take h0 hm ht, rep_add]
theorem rep_mem {cs0 : List Value} {m : Nat} {v : Value} (h : v ∈ (List.replicate m cs0).flatten) : v ∈ cs0 := by
  obtain ⟨l, hl, hv⟩ := List.mem_flatten.1 h
  have := List.eq_of_mem_replicate hl
  subst this
  exact hv
/-- The first k of n places of a block hold the cells cs0. -/
def RepS (T g n : Nat) (cs0 : List Value) (k : Nat) (w : World) : Prop := ∃ cur : Array Value, w.heap[g]? = some (.cells cur T (0, 0)) ∧ cur.size = n * 11 ∧ cur.toList.take (k * 11) = (List.replicate k cs0).flatten
end Go.Mh
namespace Go.Proofs.YtckdlhgeelhnmaaGreat
open Go.RowKit Go.Mh
theorem sizeAct : (Tryz.prog.info? 114).map (·.size) = some 11 := by kernel_rfl
theorem RepS.own {n g B : Nat} {sv : Value} {a : Ac} {w : World} (h : RepS 114 g n (acC sv a) n w) (hE : E0 sv) (hn : n ≤ 100000) (hB : B ≤ g) : OwnA B w (.slice (some ⟨g, 0, none⟩) n n) (List.replicate n a) := by
  obtain ⟨cur, h1, h2, h3⟩ := h
  have h11 := acC_len sv a
  refine ⟨List.replicate n (acC sv a), ⟨by rw [rep_len h11, List.length_replicate], Or.inr ⟨g, n, cur, by simp, hB, h1, by simp, by unfold maxLen; omega, h2, by simpa using h3⟩⟩, by simp, fun i cs x hi hx => ?_⟩
  have e1 := List.eq_of_mem_replicate (List.mem_of_getElem? hi)
  have e2 := List.eq_of_mem_replicate (List.mem_of_getElem? hx)
  subst e1 e2
  exact ⟨h11, ⟨sv, hE, rfl⟩, RAc_one w _ _ ⟨sv, hE, rfl⟩⟩

set_option maxRecDepth 100000 in
set_option maxHeartbeats 4000000 in
theorem repeat_any (F : Nat → Prop) (v : Value) (a : Ac) (n : Nat) (w : World) (h : RActs F w v [a]) (hn : n ≤ 100000) :
    Calls Tryz.prog 96 #[v, .int .i64 n] w fun e w' => ∃ r, e = .returned r ∧ OwnA w.heap.size w' r (List.replicate n a) ∧ Below w.heap.size w w' := by
  obtain ⟨va, vc, rfl, _⟩ := RdS.len h
  obtain ⟨b0, o0, sv, rfl, hE, hb0, hcell⟩ := RActs.at h (brf w) (k := 0) (x := a) rfl
  have h11 := acC_len sv a
  have hone := Lib.hid (RAc_one w (acC sv a) a ⟨sv, hE, rfl⟩)
  have HC := Lib.hid hcell
  obtain ⟨i0, hi, hz0, hz1, hz2⟩ := info_parts elActs.info
  have hzc := elActs.cells
  clear h hcell
  have hmul1 : ((1 * n / 18446744073709551616 : Nat) : Int) = 0 := by omega
  have hmul2 : ((1 * n % 18446744073709551616 : Nat) : Int) = (n : Int) := by omega
  have C := Lib.hid (Tryz.bits_Mul 1 n (by omega) (by omega) w)
  rw [hmul1, hmul2] at C
  clear hmul1 hmul2
  have hbig : ¬ ((9223372036854775807 : Int) < (n : Int)) := by omega
  go_enter Tryz.func96, Tryz.ntmps96
  go_wp2_with fail
  refine C.out.mono ?_
  rintro e w1 ⟨rfl, rfl⟩
  clear C
  go_wp2_with (at_make; refine wpList_make_full _ rfl (.tmp 29) (.tmp 29) 109 rfl w1.heap.size 114 i0 _ 11 elActs.under hi hz0 hz1 .i64 .i64 n n n rfl rfl rfl rfl (by rw [hz2]; omega) (by unfold maxLen; omega) (Nat.le_refl _) ?_; intro w2 hrow hgrow)
  obtain ⟨hr1, hr2⟩ := hrow
  have hcur : ∃ cur : Array Value, w2.heap[w1.heap.size]? = some (.cells cur 114 (0, 0)) ∧ cur.size = n * 11 := by
    rcases hr2 with ⟨e, _⟩ | ⟨g, cap, cur, e, _, hh, _, _, hs, _⟩
    · simp at e
    · simp at e
      obtain ⟨rfl, rfl⟩ := e
      exact ⟨cur, hh, hs⟩
  obtain ⟨cur0, hh0, hs0⟩ := hcur
  have hB2 : Below w1.heap.size w1 w2 := (brf w1).grown hgrow (Nat.le_refl _) (fun k hk => by simp at hk)
  clear hr1 hr2 hgrow
  obtain ⟨k0, cs, hk0, hcs, hsrc, h1c, hfl, hkn, hk1⟩ : ∃ (k0 : Nat) (cs : List Value), k0 = Nat.min 1 n ∧ cs.length = k0 * 11 ∧ (∀ j u, cs[j]? = some u → w1.cell? ((⟨b0, o0, none⟩ : Addr).add j) = some u) ∧ (∀ u ∈ cs, u.oneCell' = true) ∧ cs = (List.replicate k0 (acC sv a)).flatten ∧ k0 ≤ n ∧ (0 < n → 0 < k0) := by
    by_cases hn0 : n = 0
    · exact ⟨0, [], by subst hn0; rfl, by simp, fun j u hj => by simp at hj, fun u hu => by simp at hu, by simp, by omega, by omega⟩
    · refine ⟨1, acC sv a, ?_, by rw [h11], fun j u hj => ?_, hone.out, by simp, by omega, by omega⟩
      · show 1 = min 1 n
        omega
      · rw [Addr.add_lit]
        have := HC.out j u hj
        simpa using this
  have hsrc2 : ∀ j u, cs[j]? = some u → w2.cell? ((⟨b0, o0, none⟩ : Addr).add j) = some u := fun j u hj => by
    have h := hsrc j u hj
    rw [Addr.add_lit] at h ⊢
    exact (hB2.cell hb0).trans h
  have hst : Hid (RepS 114 w1.heap.size n (acC sv a) k0 (w2.setRow w1.heap.size (cur0.toList.take 0 ++ cs ++ cur0.toList.drop (0 + cs.length)).toArray)) := Lib.hid ⟨_, setRow_heap w2 w1.heap.size cur0 _ _ _ hh0, by simp [hs0, hcs]; have := Nat.mul_le_mul_right 11 hkn; omega, by simp only [List.take_zero, List.nil_append]; rw [← hcs, List.take_left' rfl, hfl]⟩
  have hB3 := below_setRow hB2 (Nat.le_refl _) (cur0.toList.take 0 ++ cs ++ cur0.toList.drop (0 + cs.length)).toArray
  have hfit : 0 + cs.length ≤ cur0.size := by rw [hs0, hcs]; have := Nat.mul_le_mul_right 11 hkn; omega
  have hcp : (Builtin.copy_ #[109, 109] 3 #[.slice (some ⟨w1.heap.size, 0, none⟩) n n, .slice (some ⟨b0, o0, none⟩) 1 vc]).run Tryz.prog w2 = .ok (.int .i64 k0) (w2.setRow w1.heap.size (cur0.toList.take 0 ++ cs ++ cur0.toList.drop (0 + cs.length)).toArray) :=
    run_copyN (P := Tryz.prog) w2 109 109 3 114 11 w1.heap.size 0 n n ⟨b0, o0, none⟩ 1 vc cur0 _ cs k0 elActs.under sizeAct hh0 hk0 hcs hsrc2 hfit h1c
  have hz2 : w1.heap.size ≤ w2.heap.size := hB2.size
  generalize (w2.setRow w1.heap.size (cur0.toList.take 0 ++ cs ++ cur0.toList.drop (0 + cs.length)).toArray) = w3 at *
  clear hsrc hsrc2 h1c hfl hcs hfit hh0 hs0 hi hz0 hz1 hzc HC hk0 hB2 hz2
  rw [hcp]
  go_wp2
  generalize hg : w1.heap.size = g at *
  clear hcp
  go_loopw [8] (fun kv ws => ∃ k : Nat, k ≤ n ∧ (0 < n → 0 < k) ∧ kv = .int .i64 k ∧ Hid (RepS 114 g n (acC sv a) k ws) ∧ Below g w1 ws) (fun kv _ => n - (intOf kv).toNat)
  case atStart => exact ⟨k0, hkn, hk1, rfl, hst, hB3⟩
  case round =>
    clear hst hB3 hk1 hkn
    obtain ⟨k, hkn, hk1, rfl, hst, hb⟩ := hrel
    by_cases hlt : k < n
    · have hkp := hk1 (by omega)
      obtain ⟨cur, hc1, hc2, hc3⟩ := hst.out
      obtain ⟨m, hm⟩ : ∃ m, m = Nat.min k (n - k) := ⟨_, rfl⟩
      have hm' : m = min k (n - k) := hm
      have hmk : m ≤ k := by omega
      have hmn : k + m ≤ n := by omega
      have hm0 : 0 < m := by omega
      obtain ⟨s1, s2, s3⟩ := rep_step h11 (by simpa using hc2) hmk hmn hc3
      have h1c : ∀ u ∈ cur.toList.take (m * 11), u.oneCell' = true := fun u hu => by
        rw [rep_take h11 hmk hc3] at hu
        exact hone.out u (rep_mem hu)
      have hsrc : ∀ j u, (cur.toList.take (m * 11))[j]? = some u → wr.drew.cell? ((⟨g, 0, none⟩ : Addr).add j) = some u := fun j u hj => by
        rw [Addr.add_lit, Nat.zero_add]
        have e : wr.drew.heap[g]? = some (.cells cur 114 (0, 0)) := hc1
        unfold World.cell?
        rw [e]
        rw [List.getElem?_take] at hj
        split at hj
        · simpa using hj
        · simp at hj
      have hfit : k * 11 + (cur.toList.take (m * 11)).length ≤ cur.size := by rw [s1, hc2, ← Nat.add_mul]; exact Nat.mul_le_mul_right 11 hmn
      have hst2 : Hid (RepS 114 g n (acC sv a) (k + m) (wr.drew.setRow g (cur.toList.take (k * 11) ++ cur.toList.take (m * 11) ++ cur.toList.drop (k * 11 + (cur.toList.take (m * 11)).length)).toArray)) := Lib.hid ⟨_, setRow_heap wr.drew g cur _ _ _ hc1, by simpa using s2, by simpa using s3⟩
      have hB4 := below_setRow hb.drew (Nat.le_refl _) (cur.toList.take (k * 11) ++ cur.toList.take (m * 11) ++ cur.toList.drop (k * 11 + (cur.toList.take (m * 11)).length)).toArray
      have hnk : ¬ n = k := by omega
      have hcl := Lib.hid hc3
      have hmh := Lib.hid hm
      clear s2 s3 hst hc3 hm hm'
      go_upto_region 9 with fail
      refine wp_region_held (S := fun _ => True) (by kernel_rfl) ?_
      refine wpAnyH_takeD 0 38 (v := ?_) rfl rfl (by kernel_rfl) (by kernel_rfl) (by kernel_rfl) (fun _ _ _ h => h) (Or.inl ⟨by rfl, ?_⟩) trivial ?_
      rotate_left
      · (intro w' hw'; (try dsimp only at hw'); go_simp; try with_reducible rfl)
      simp only [List.set_cons_zero, List.set_cons_succ]
      refine wpAnyH_takeD 1 39 (v := ?_) rfl rfl (by kernel_rfl) (by kernel_rfl) (by kernel_rfl) (fun _ _ _ h => h) (Or.inl ⟨by rfl, ?_⟩) trivial ?_
      rotate_left
      · (intro w' hw'; (try dsimp only at hw'); go_simp; try with_reducible rfl)
      simp only [List.set_cons_zero, List.set_cons_succ]
      refine wpAnyH_takeD 2 40 (v := ?_) rfl rfl (by kernel_rfl) (by kernel_rfl) (by kernel_rfl) (fun _ _ _ h => h) (Or.inl ⟨by rfl, ?_⟩) trivial ?_
      rotate_left
      · (intro w' hw'; (try dsimp only at hw'); go_simp; try with_reducible rfl)
      simp only [List.set_cons_zero, List.set_cons_succ]
      refine wpAnyH_takeD 3 41 (v := ?_) rfl rfl (by kernel_rfl) (by kernel_rfl) (by kernel_rfl) (fun _ _ _ h => h) (Or.inl ⟨by rfl, ?_⟩) trivial ?_
      rotate_left
      · (intro w' hw'; (try dsimp only at hw'); go_simp; try with_reducible rfl)
      simp only [List.set_cons_zero, List.set_cons_succ]
      refine wpAnyH_takeD 4 42 (v := ?_) rfl rfl (by kernel_rfl) (by kernel_rfl) (by kernel_rfl) (fun _ _ _ h => h) (Or.inl ⟨by rfl, ?_⟩) trivial ?_
      rotate_left
      · (intro w' hw'; (try dsimp only at hw'); go_simp; try with_reducible rfl)
      simp only [List.set_cons_zero, List.set_cons_succ]
      refine wpAnyH_takeD 5 43 (v := ?_) rfl rfl (by kernel_rfl) (by kernel_rfl) (by kernel_rfl) (fun _ _ _ h => h) (Or.inl ⟨by rfl, ?_⟩) trivial ?_
      rotate_left
      · (intro w' hw'; (try dsimp only at hw'); go_simp; try with_reducible rfl)
      simp only [List.set_cons_zero, List.set_cons_succ]
      refine wpAnyH_takeD 6 44 (v := ?_) rfl rfl (by kernel_rfl) (by kernel_rfl) (by kernel_rfl) (fun _ _ _ h => h) (Or.inl ⟨by rfl, ?_⟩) trivial ?_
      rotate_left
      · (intro w' hw'; (try dsimp only at hw'); go_simp; try with_reducible rfl)
      simp only [List.set_cons_zero, List.set_cons_succ]
      refine wpAnyH_step 7 rfl (by kernel_rfl) (fun K' hK' => ?_)
      refine step_copyN rfl (.tmp 41) (.tmp 44) 109 109 rfl 114 11 elActs.under sizeAct g (k * 11) (n - k) (n - k) ⟨g, 0, none⟩ k n rfl rfl cur _ hc1 (cur.toList.take (m * 11)) m hmh.out s1 hsrc hfit h1c ?_
      refine hK'.out _ _ trivial ?_
      clear hK' K'
      have hwm : IntKind.i64.wrap ((k : Int) + (m : Int)) = ((k + m : Nat) : Int) := by rw [IntKind.wrap_i64]; omega
      simp only [show goInt m = .int .i64 m from rfl]
      refine wpAnyH_takeD 8 46 (v := ?_) rfl rfl (by kernel_rfl) (by kernel_rfl) (by kernel_rfl) (fun _ _ _ h => h) (Or.inl ⟨by rfl, ?_⟩) trivial ?_
      rotate_left
      · (intro w' hw'; (try dsimp only at hw'); go_simp; try with_reducible rfl)
      simp only [List.set_cons_zero, List.set_cons_succ]
      refine wpAnyH_takeD 9 8 (v := ?_) rfl rfl (by kernel_rfl) (by kernel_rfl) (by kernel_rfl) (fun _ _ _ h => h) (Or.inl ⟨by rfl, ?_⟩) trivial ?_
      rotate_left
      · (intro w' hw'; (try dsimp only at hw'); go_simp; try with_reducible rfl)
      simp only [List.set_cons_zero, List.set_cons_succ]
      refine wpAnyH_done (by kernel_rfl) ?_ _
      go_wp2
      go_roundw
      case rel => exact ⟨k + m, hmn, fun _ => by omega, by simp, hst2, hB4⟩
      case measure => simp [intOf]; omega
    · obtain rfl : k = n := by omega
      go_wp2
      go_ret
      exact ⟨_, rfl, by subst hg; exact RepS.own hst.out hE hn (Nat.le_refl _), by subst hg; exact hb⟩
end Go.Proofs.YtckdlhgeelhnmaaGreat
