/- The references on operations: acts made an operation again. -/
import Derived.Test.YtgodceplajkcdaaRefA
import Derived.Test.YtgodceplajkcdaaOpTidy
namespace Go.Proofs.Ytgodceplajkcdaa
open Go.RowKit Go.Mh

/-- A part whose items lie in a row of items, made since B and ahead of b. -/
def RPb (B b : Nat) (w : World) (cs : List Value) (p : Pt) : Prop := RPt (fun k => B ≤ k ∧ k < b ∧ Ty 42 w k) w cs p
theorem RPb.keep {B b b' : Nat} {w w' : World} {cs : List Value} {p : Pt} (h : RPb B b w cs p) (hbb : b ≤ b') (hk : ∀ k, k < b → Ty 42 w k → w'.heap[k]? = w.heap[k]?) : RPb B b' w' cs p :=
  RPt.to h fun k ⟨h1, h2, hT⟩ _ => ⟨⟨h1, by omega, by obtain ⟨xs, fr, e⟩ := hT; exact ⟨xs, fr, (hk k h2 ⟨xs, fr, e⟩).trans e⟩⟩, hk k h2 hT⟩
theorem RPb_one (B b : Nat) : ∀ (w : World) (cs : List Value) (x : Pt), RPb B b w cs x → ∀ u ∈ cs, u.oneCell' = true := fun w cs x h => RPt_one _ w cs x h

/-- The three captured variables, but for the row that is put. -/
structure Tc (B gp go gc : Nat) (w : World) (pv ov : Value) (out : List Pt) (c : Nat) (b : Nat) : Prop where
  hp : w.heap[gp]? = some (.cells #[pv] 37 (0, 0))
  ho : w.heap[go]? = some (.cells #[ov] 53 (0, 0))
  hc : w.heap[gc]? = some (.cells #[.int .i64 c] 3 (0, 0))
  O : OwnS B 57 7 (RPb B b) w ov out
  hs : b ≤ w.heap.size
  hB : B ≤ b
/-- The three captured variables: what is put, what is out, what is cut. -/
structure Td (B gp go gc : Nat) (w : World) (pv ov : Value) (out : List Pt) (ps : List It) (c : Nat) (b : Nat) : Prop where
  t : Tc B gp go gc w pv ov out c b
  P : OwnS b 42 3 RIt w pv ps

theorem cell1 {w : World} {g T : Nat} {v : Value} {fr : Nat × Nat} (h : w.heap[g]? = some (.cells #[v] T fr)) : w.cell? ⟨g, 0, none⟩ = some v := by unfold World.cell?; rw [h]; rfl
theorem fz1 {w : World} {g T : Nat} {v : Value} (h : w.heap[g]? = some (.cells #[v] T (0, 0))) : w.frozen? ⟨g, 0, none⟩ = false := by simp [World.frozen?, h]

section
variable {B gp go gc : Nat} {w w' : World} {pv ov : Value} {out : List Pt} {ps : List It} {c b : Nat}
/-- What leaves all old blocks leaves the variables. -/
theorem Tc.below (h : Tc B gp go gc w pv ov out c b) (hb : Below w.heap.size w w') : Tc B gp go gc w' pv ov out c b :=
  ⟨(hb.block _ (lt_of_heap h.hp)).trans h.hp, (hb.block _ (lt_of_heap h.ho)).trans h.ho, (hb.block _ (lt_of_heap h.hc)).trans h.hc,
    h.O.below hb fun _ _ _ r => r.keep (Nat.le_refl _) fun k hk _ => hb.block k (by have := h.hs; omega), by have := h.hs; have := hb.size; omega, h.hB⟩
theorem Td.below (h : Td B gp go gc w pv ov out ps c b) (hb : Below w.heap.size w w') : Td B gp go gc w' pv ov out ps c b := ⟨h.t.below hb, h.P.below hb fun _ _ _ r => r⟩
theorem Tc.raise (h : Tc B gp go gc w pv ov out c b) : Tc B gp go gc w pv ov out c w.heap.size :=
  ⟨h.hp, h.ho, h.hc, h.O.to (fun _ _ _ => rfl) fun _ _ _ r => r.keep h.hs fun _ _ _ => rfl, Nat.le_refl _, by have := h.hs; have := h.hB; omega⟩
theorem Tc.lt (h : Tc B gp go gc w pv ov out c b) : gp < w.heap.size ∧ go < w.heap.size ∧ gc < w.heap.size := ⟨lt_of_heap h.hp, lt_of_heap h.ho, lt_of_heap h.hc⟩
theorem Tc.cells (h : Tc B gp go gc w pv ov out c b) : w.cell? ⟨gp, 0, none⟩ = some pv ∧ w.cell? ⟨go, 0, none⟩ = some ov ∧ w.cell? ⟨gc, 0, none⟩ = some (.int .i64 c) ∧ w.frozen? ⟨gp, 0, none⟩ = false ∧ w.frozen? ⟨go, 0, none⟩ = false ∧ w.frozen? ⟨gc, 0, none⟩ = false :=
  ⟨cell1 h.hp, cell1 h.ho, cell1 h.hc, fz1 h.hp, fz1 h.ho, fz1 h.hc⟩
theorem Tc.ne (h : Tc B gp go gc w pv ov out c b) : gp ≠ go ∧ gp ≠ gc ∧ go ≠ gc :=
  ⟨fun e => by have k1 := h.hp; have k2 := h.ho; subst e; rw [k1] at k2; simp at k2, fun e => by have k1 := h.hp; have k2 := h.hc; subst e; rw [k1] at k2; simp at k2, fun e => by have k1 := h.ho; have k2 := h.hc; subst e; rw [k1] at k2; simp at k2⟩
theorem Tc.after (h : Tc B gp go gc w pv ov out c b) (u : Value) : (w.setCell ⟨gp, 0, none⟩ u).cell? ⟨gc, 0, none⟩ = some (.int .i64 c) ∧ (w.setCell ⟨gp, 0, none⟩ u).frozen? ⟨gc, 0, none⟩ = false := by
  have e : (w.setCell ⟨gp, 0, none⟩ u).heap[gc]? = some (.cells #[.int .i64 c] 3 (0, 0)) := (heap_setCell_other w _ gc u (Ne.symm h.ne.2.1)).trans h.hc
  exact ⟨cell1 e, fz1 e⟩
/-- The row of parts has grown, or an element of it was changed: nothing else. -/
theorem Tc.grow (h : Tc B gp go gc w pv ov out c b) {b' : Nat} (hbb : B ≤ b') (hbs : b' ≤ w'.heap.size) {ov' : Value} {out' : List Pt} (hk : ∀ k, k < w.heap.size → some k ≠ ov.ownBlock → w'.heap[k]? = w.heap[k]?) (hO : OwnS B 57 7 (RPb B b') w' ov' out') :
    Tc B gp go gc (w'.setCell ⟨go, 0, none⟩ ov') pv ov' out' c b' := by
  have k1 := (hk gp (lt_of_heap h.hp) (h.O.ne h.hp (by decide))).trans h.hp
  have k2 := (hk go (lt_of_heap h.ho) (h.O.ne h.ho (by decide))).trans h.ho
  have k3 := (hk gc (lt_of_heap h.hc) (h.O.ne h.hc (by decide))).trans h.hc
  obtain ⟨n1, _, n2⟩ := h.ne
  have hset : ∀ k, k ≠ go → (w'.setCell ⟨go, 0, none⟩ ov').heap[k]? = w'.heap[k]? := fun k hn => heap_setCell_other w' _ k _ hn
  refine ⟨(hset gp n1).trans k1, ?_, (hset gc (Ne.symm n2)).trans k3, ?_, by simpa using hbs, hbb⟩
  · have := heap_setCell_same w' go 0 _ _ ov' k2
    simpa using this
  · exact hO.to (fun k hke _ => hset k (fun e => by subst e; exact hO.ne k2 (by decide) hke.symm)) fun _ _ _ r => r.keep (Nat.le_refl _) fun k _ hT => hset k (fun e => by
      subst e
      exact hT.ne k2 (by decide) rfl)
theorem Td.grow (h : Td B gp go gc w pv ov out ps c b) (hz : w.heap.size ≤ w'.heap.size) {ov' : Value} {out' : List Pt} (hk : ∀ k, k < w.heap.size → some k ≠ ov.ownBlock → w'.heap[k]? = w.heap[k]?) (hO : OwnS B 57 7 (RPb B b) w' ov' out') :
    Td B gp go gc (w'.setCell ⟨go, 0, none⟩ ov') pv ov' out' ps c b := by
  refine ⟨h.t.grow h.t.hB (Nat.le_trans h.t.hs hz) hk hO, ?_⟩
  have k2 := (hk go (lt_of_heap h.t.ho) (h.t.O.ne h.t.ho (by decide))).trans h.t.ho
  have hP := h.P.to (w' := w') (R' := RIt) (fun k hke hkl => hk k hkl (fun e => by
    obtain ⟨css, ⟨_, h1⟩, _⟩ := h.P
    rcases h1 with ⟨rfl, _⟩ | ⟨g', cap, cur, rfl, _, hh, _⟩
    · simp [Value.ownBlock] at hke
    · simp [Value.ownBlock] at hke
      subst hke
      exact h.t.O.ne hh (by decide) e)) (fun _ _ _ r => r)
  exact hP.to (fun k hke _ => heap_setCell_other w' _ k _ (fun e => by subst e; exact hP.ne k2 (by decide) hke.symm)) fun _ _ _ r => r
/-- The variables reset. -/
theorem Tc.reset (h : Tc B gp go gc w pv ov out c b) : Td B gp go gc ((w.setCell ⟨gp, 0, none⟩ (.slice none 0 0)).setCell ⟨gc, 0, none⟩ (.int .i64 0)) (.slice none 0 0) ov out [] 0 w.heap.size := by
  obtain ⟨n1', n2', n3⟩ := h.ne
  have n1 := Ne.symm n1'
  have n2 := Ne.symm n2'
  have hset : ∀ k, k ≠ gp → k ≠ gc → ((w.setCell ⟨gp, 0, none⟩ (.slice none 0 0)).setCell ⟨gc, 0, none⟩ (.int .i64 0)).heap[k]? = w.heap[k]? := fun k h1 h2 => (heap_setCell_other _ _ k _ h2).trans (heap_setCell_other w _ k _ h1)
  have p1 := heap_setCell_same w gp 0 _ _ (.slice none 0 0) h.hp
  have p2 := (heap_setCell_other (w.setCell ⟨gp, 0, none⟩ (.slice none 0 0)) ⟨gc, 0, none⟩ gp (.int .i64 0) (Ne.symm n2)).trans p1
  have c1 := (heap_setCell_other w ⟨gp, 0, none⟩ gc (.slice none 0 0) n2).trans h.hc
  have c2 := heap_setCell_same (w.setCell ⟨gp, 0, none⟩ (.slice none 0 0)) gc 0 _ _ (.int .i64 0) c1
  refine ⟨⟨by simpa using p2, (hset go n1 n3).trans h.ho, by simpa using c2, ?_, by simp, by have := h.hs; have := h.hB; omega⟩, OwnS.nil⟩
  refine h.O.to (fun k hke _ => hset k (fun e => ?_) (fun e => ?_)) fun _ _ _ r => r.keep h.hs fun k _ hT => hset k (fun e => ?_) (fun e => ?_)
  · subst e; exact h.O.ne h.hp (by decide) hke.symm
  · subst e; exact h.O.ne h.hc (by decide) hke.symm
  · subst e; exact hT.ne h.hp (by decide) rfl
  · subst e; exact hT.ne h.hc (by decide) rfl
theorem Tc.typ (h : Tc B gp go gc w pv ov out c b) {k : Nat} (hT : Ty 126 w k) : k ≠ gp ∧ k ≠ go ∧ k ≠ gc ∧ some k ≠ ov.ownBlock := by
  refine ⟨hT.ne h.hp (by decide), hT.ne h.ho (by decide), hT.ne h.hc (by decide), ?_⟩
  obtain ⟨xs, fr, e⟩ := hT
  exact h.O.ne e (by decide)
theorem tyto {T : TypeId} {w w' : World} {k : Nat} (h : Ty T w k) (e : w'.heap[k]? = w.heap[k]?) : Ty T w' k := by obtain ⟨xs, fr, h⟩ := h; exact ⟨xs, fr, e.trans h⟩
theorem Tc.keepA (h : Tc B gp go gc w pv ov out c b) (hk : ∀ k, k < w.heap.size → some k ≠ ov.ownBlock → w'.heap[k]? = w.heap[k]?) (u : Value) {k : Nat} (hT : Ty 126 w k) : (w'.setCell ⟨go, 0, none⟩ u).heap[k]? = w.heap[k]? := by
  obtain ⟨_, n2, _, n4⟩ := h.typ hT
  exact (heap_setCell_other w' _ k _ n2).trans (hk k hT.lt n4)
theorem Tc.keepR (h : Tc B gp go gc w pv ov out c b) {k : Nat} (hT : Ty 126 w k) : ((w.setCell ⟨gp, 0, none⟩ (.slice none 0 0)).setCell ⟨gc, 0, none⟩ (.int .i64 0)).heap[k]? = w.heap[k]? := by
  obtain ⟨n1, _, n3, _⟩ := h.typ hT
  exact (heap_setCell_other _ _ k _ n3).trans (heap_setCell_other w _ k _ n1)
/-- What is put, as the items of a part. -/
theorem Td.its (h : Td B gp go gc w pv ov out ps c b) (hb : Below w.heap.size w w') : RPb B w.heap.size w' [.int .i64 2, .int .i64 0, pv, .int .i64 0, .int .i64 0, .bool false, .string ⟨#[]⟩] (putP ps) := by
  refine ⟨pv, rfl, ?_⟩
  have hr := h.P.rdN
  refine RItems.to hr fun k hke hkl => ?_
  obtain ⟨css, ⟨_, h1⟩, _⟩ := h.P
  rcases h1 with ⟨rfl, _⟩ | ⟨g', cap, cur, rfl, hg, hh, _⟩
  · simp [Value.ownBlock] at hke
  · simp [Value.ownBlock] at hke
    subst hke
    have hbk := hb.block g' hkl
    exact ⟨⟨by have := h.t.hB; omega, hkl, ⟨cur, _, hbk.trans hh⟩⟩, hbk⟩
end

theorem len_nil {α : Type} {bs e sz : Nat} {R : World → List Value → α → Prop} {w : World} {v : Value} {L : List α} (h : OwnS bs e sz R w v L) : ∃ a c, v = .slice a L.length c := by
  obtain ⟨a, c, rfl, _⟩ := RdS.len h.rd
  exact ⟨a, c, rfl⟩

/-- One part appended to the row of parts. -/
theorem wpList_appB {w : World} {ops : Array Oper} {rest : List Oper} {o : Oper} {a : Act} {Q : Exit → Act → World → Prop} (hgd : o.guard = none) (s x : Operand)
    (hop : o.op = .call { callee := .builtin .append, args := #[s, x], argTypes := #[53, 53] })
    (B b : Nat) (v : Value) (L : List Pt) (hs : a.eval s = v) (hown : OwnS B 57 7 (RPb B b) w v L)
    (y : Pt) (cs : List Value) (g : Nat) (hx : a.eval x = .slice (some ⟨g, 0, none⟩) 1 1) (hg : g = w.heap.size) (hcs : cs.length = 7) (hR1 : RPb B b w cs y) (hL : L.length ≤ 200000) (hB : B ≤ w.heap.size) (hbs : b ≤ w.heap.size)
    (h : ∀ v' w', OwnS B 57 7 (RPb B b) w' v' (L ++ [y]) → Below B w w' → w.heap.size < w'.heap.size → (∀ k, k < w.heap.size → some k ≠ v.ownBlock → w'.heap[k]? = w.heap[k]?) → wpList Try.prog ops Q rest (a.put o.dst v') w') :
    wpList Try.prog ops Q (o :: rest) a (w.alloc (.cells cs.toArray 57)) := by
  subst hg
  have hb0 : Below w.heap.size w (w.alloc (.cells cs.toArray 57)) := (Below.refl _ _).alloc (Nat.le_refl _) _
  have hcomb : ∀ w', (w.alloc (.cells cs.toArray 57)).grownBy w' v.ownBlock → ∀ k, k < w.heap.size → some k ≠ v.ownBlock → w'.heap[k]? = w.heap[k]? := fun w' hg k hk hne => by
    rw [hg.block k (by simp; omega) hne]; exact hb0.block k hk
  have hk1 : ∀ (cs' : List Value) (x' : Pt), RPb B b w cs' x' → RPb B b (w.alloc (.cells cs.toArray 57)) cs' x' := fun cs' x' r => r.keep (Nat.le_refl _) fun k hk _ => hb0.block k (by omega)
  have hown1 := hown.below hb0 (fun cs' x' _ r => hk1 cs' x' r)
  refine wpList_app hgd s x 53 hop B 57 7 80 _ elPart (RPb B b) v L [y] hs hown1 (fun _ => True) _ hx
    (RdS.one cs 57 hcs trivial (hk1 _ _ hR1)) (RPb_one B b) (by unfold maxLen; simp; omega) (by simp; omega) (by simp; omega) ?_ ?_
  · intro w' hg cs' x' _ r
    exact r.keep (Nat.le_refl _) fun k hk hT => hg.block k (by simp; omega) (by obtain ⟨xs, fr, hT⟩ := hT; exact hown1.ne hT (by decide))
  · intro v' w' hown' hg hb
    exact h v' w' hown' (((Below.refl _ _).alloc hB _).trans hb) (by have := hg.size; simp at this; omega) (hcomb w' hg)

set_option maxRecDepth 100000 in
set_option maxHeartbeats 2000000 in
theorem flush_any {B gp go gc : Nat} {w : World} {pv ov : Value} {out : List Pt} {ps : List It} {c b : Nat} (h : Td B gp go gc w pv ov out ps c b) (hge : B ≤ gp ∧ B ≤ go ∧ B ≤ gc) (hl : out.length ≤ 100000) :
    Calls Try.prog 140 #[.pointer (some ⟨gp, 0, none⟩), .pointer (some ⟨go, 0, none⟩), .pointer (some ⟨gc, 0, none⟩)] w fun e w' => e = .returned (.tuple #[]) ∧ (∃ ov' b', Td B gp go gc w' (.slice none 0 0) ov' (flush out ps c) [] 0 b') ∧ Below B w w' ∧ ∀ k, Ty 126 w k → w'.heap[k]? = w.heap[k]? := by
  obtain ⟨pa, pc, rfl⟩ := len_nil h.P
  obtain ⟨oa, oc, rfl⟩ := len_nil h.t.O
  obtain ⟨c0, c1, c2, z0, z1, z2⟩ := h.t.cells
  obtain ⟨l0, l1, l2⟩ := h.t.lt
  have hres := Lib.hid (show flush out ps c = out ++ (if ps = [] then [] else [putP ps]) ++ (if c = 0 then [] else [cutP c]) from rfl)
  have hBs : B ≤ w.heap.size := by have := h.t.hs; have := h.t.hB; omega
  go_enter Try.func140, Try.ntmps140
  by_cases hp : ps = []
  · subst hp
    by_cases hc : c = 0
    · subst hc
      have H0 := Lib.hid h.t
      obtain ⟨f1, f2⟩ := H0.out.after (.slice none 0 0)
      clear h
      have T := Lib.hid (H0.out.reset)
      have KK := Lib.hid (fun k (hT : Ty 126 w k) => H0.out.keepR hT)
      have hB1 := Lib.hid ((((Below.refl B w).setCell (p := ⟨gp, 0, none⟩) hge.1 (.slice none 0 0)).setCell (p := ⟨gc, 0, none⟩) hge.2.2 (.int .i64 0)))
      go_wp2
      go_end0
      exact ⟨rfl, ⟨_, _, by rw [hres.out]; simpa using T.out⟩, hB1.out, KK.out⟩
    · have hc0 : 0 < c := by omega
      have H0 := Lib.hid h.t
      have hO1 := Lib.hid h.t.raise.O
      have hres1 := hres.out.trans (by rw [if_neg hc]; simp : _ = out ++ [cutP c])
      clear h hc hres
      obtain ⟨o1, q1⟩ : ∃ o, out ++ [cutP c] = o := ⟨_, rfl⟩
      rw [q1] at hres1
      have hl1 : o1.length ≤ 100000 + 1 := by rw [← q1]; simp; omega
      have E1 := Lib.hid q1
      clear q1
      have hres2 := Lib.hid hres1
      clear hres1
      go_wp2_with (at_builtin; refine wpList_appB rfl (.tmp 13) (.tmp 16) rfl B w.heap.size _ (out) rfl hO1.out (cutP c) [.int .i64 3, .int .i64 c, .slice none 0 0, .int .i64 0, .int .i64 0, .bool false, .string ⟨#[]⟩] _ rfl (by first | rfl | simp) rfl (⟨.slice none 0 0, rfl, RdS.nil⟩ : RPb B _ _ _ (cutP c)) (by first | omega | (simp; omega)) hBs (Nat.le_refl _) ?_; intro v1 w1 ho1 hb1 hz1 hk1; rw [E1.out] at ho1; obtain ⟨oa1, oc1, rfl⟩ := len_nil ho1; have H1 := Lib.hid (H0.out.grow (b' := w.heap.size) hBs (Nat.le_of_lt hz1) hk1 ho1); have KA1 := Lib.hid (fun k (hT : Ty 126 w k) => H0.out.keepA hk1 (.slice oa1 o1.length oc1) hT); have k0 := (hk1 go H0.out.lt.2.1 (H0.out.O.ne H0.out.ho (by decide))).trans H0.out.ho; have k1 := fz1 k0; have k2 := cell1 k0; obtain ⟨m0, m1, m2, y0, y1, y2⟩ := H1.out.cells; have hb1' := Lib.hid (((Below.refl B w).trans hb1).setCell (p := ⟨go, 0, none⟩) hge.2.1 (.slice oa1 o1.length oc1)); obtain ⟨f1, f2⟩ := H1.out.after (.slice none 0 0); have hO1 := Lib.hid H1.out.raise.O; have hBs1 : B ≤ (w1.setCell ⟨go, 0, none⟩ (.slice oa1 o1.length oc1)).heap.size := (by have := H1.out.hs; have := H1.out.hB; omega); clear k0 ho1 hk1)
      have T := Lib.hid (H1.out.reset)
      have KK := Lib.hid (fun k (hT : Ty 126 w k) => (H1.out.keepR (tyto hT (KA1.out k hT))).trans (KA1.out k hT))
      have hB1 := Lib.hid (((hb1'.out.setCell (p := ⟨gp, 0, none⟩) hge.1 (.slice none 0 0)).setCell (p := ⟨gc, 0, none⟩) hge.2.2 (.int .i64 0)))
      go_wp2
      go_end0
      exact ⟨rfl, ⟨_, _, by rw [hres2.out]; simpa using T.out⟩, hB1.out, KK.out⟩
  · have hp1 : 0 < ps.length := List.length_pos_iff.2 hp
    have HP := Lib.hid (h.its (brf w))
    have H0 := Lib.hid h.t
    have hO0 := Lib.hid h.t.raise.O
    clear h
    by_cases hc : c = 0
    · subst hc
      have hres1 := hres.out.trans (by rw [if_neg hp]; simp : _ = out ++ [putP ps])
      clear hp hres
      obtain ⟨o1, q1⟩ : ∃ o, out ++ [putP ps] = o := ⟨_, rfl⟩
      rw [q1] at hres1
      have hl1 : o1.length ≤ 100000 + 1 := by rw [← q1]; simp; omega
      have E1 := Lib.hid q1
      clear q1
      have hres2 := Lib.hid hres1
      clear hres1
      go_wp2_with (at_builtin; refine wpList_appB rfl (.tmp 6) (.tmp 9) rfl B w.heap.size _ (out) rfl hO0.out (putP ps) [.int .i64 2, .int .i64 0, .slice pa ps.length pc, .int .i64 0, .int .i64 0, .bool false, .string ⟨#[]⟩] _ rfl (by first | rfl | simp) rfl HP.out (by first | omega | (simp; omega)) hBs (Nat.le_refl _) ?_; intro v1 w1 ho1 hb1 hz1 hk1; rw [E1.out] at ho1; obtain ⟨oa1, oc1, rfl⟩ := len_nil ho1; have H1 := Lib.hid (H0.out.grow (b' := w.heap.size) hBs (Nat.le_of_lt hz1) hk1 ho1); have KA1 := Lib.hid (fun k (hT : Ty 126 w k) => H0.out.keepA hk1 (.slice oa1 o1.length oc1) hT); have k0 := (hk1 go H0.out.lt.2.1 (H0.out.O.ne H0.out.ho (by decide))).trans H0.out.ho; have k1 := fz1 k0; have k2 := cell1 k0; obtain ⟨m0, m1, m2, y0, y1, y2⟩ := H1.out.cells; have hb1' := Lib.hid (((Below.refl B w).trans hb1).setCell (p := ⟨go, 0, none⟩) hge.2.1 (.slice oa1 o1.length oc1)); obtain ⟨f1, f2⟩ := H1.out.after (.slice none 0 0); have hO1 := Lib.hid H1.out.raise.O; have hBs1 : B ≤ (w1.setCell ⟨go, 0, none⟩ (.slice oa1 o1.length oc1)).heap.size := (by have := H1.out.hs; have := H1.out.hB; omega); clear k0 ho1 hk1)
      have T := Lib.hid (H1.out.reset)
      have KK := Lib.hid (fun k (hT : Ty 126 w k) => (H1.out.keepR (tyto hT (KA1.out k hT))).trans (KA1.out k hT))
      have hB1 := Lib.hid (((hb1'.out.setCell (p := ⟨gp, 0, none⟩) hge.1 (.slice none 0 0)).setCell (p := ⟨gc, 0, none⟩) hge.2.2 (.int .i64 0)))
      go_wp2
      go_end0
      exact ⟨rfl, ⟨_, _, by rw [hres2.out]; simpa using T.out⟩, hB1.out, KK.out⟩
    · have hc0 : 0 < c := by omega
      have hres1 := hres.out.trans (by rw [if_neg hp, if_neg hc] : _ = (out ++ [putP ps]) ++ [cutP c])
      clear hp hres hc
      obtain ⟨o1, q1⟩ : ∃ o, out ++ [putP ps] = o := ⟨_, rfl⟩
      rw [q1] at hres1
      have hl1 : o1.length ≤ 100000 + 1 := by rw [← q1]; simp; omega
      have E1 := Lib.hid q1
      clear q1
      obtain ⟨o2, q2⟩ : ∃ o, o1 ++ [cutP c] = o := ⟨_, rfl⟩
      rw [q2] at hres1
      have hl2 : o2.length ≤ 100000 + 2 := by rw [← q2]; simp; omega
      have E2 := Lib.hid q2
      clear q2
      have hres2 := Lib.hid hres1
      clear hres1
      go_wp2_with (first | (at_builtin; refine wpList_appB rfl (.tmp 6) (.tmp 9) rfl B w.heap.size _ (out) rfl hO0.out (putP ps) [.int .i64 2, .int .i64 0, .slice pa ps.length pc, .int .i64 0, .int .i64 0, .bool false, .string ⟨#[]⟩] _ rfl (by first | rfl | simp) rfl HP.out (by first | omega | (simp; omega)) hBs (Nat.le_refl _) ?_; intro v1 w1 ho1 hb1 hz1 hk1; rw [E1.out] at ho1; obtain ⟨oa1, oc1, rfl⟩ := len_nil ho1; have H1 := Lib.hid (H0.out.grow (b' := w.heap.size) hBs (Nat.le_of_lt hz1) hk1 ho1); have KA1 := Lib.hid (fun k (hT : Ty 126 w k) => H0.out.keepA hk1 (.slice oa1 o1.length oc1) hT); have k0 := (hk1 go H0.out.lt.2.1 (H0.out.O.ne H0.out.ho (by decide))).trans H0.out.ho; have k1 := fz1 k0; have k2 := cell1 k0; obtain ⟨m0, m1, m2, y0, y1, y2⟩ := H1.out.cells; have hb1' := Lib.hid (((Below.refl B w).trans hb1).setCell (p := ⟨go, 0, none⟩) hge.2.1 (.slice oa1 o1.length oc1)); obtain ⟨f1, f2⟩ := H1.out.after (.slice none 0 0); have hO1 := Lib.hid H1.out.raise.O; have hBs1 : B ≤ (w1.setCell ⟨go, 0, none⟩ (.slice oa1 o1.length oc1)).heap.size := (by have := H1.out.hs; have := H1.out.hB; omega); clear k0 ho1 hk1) | (at_builtin; refine wpList_appB rfl (.tmp 13) (.tmp 16) rfl B (w1.setCell ⟨go, 0, none⟩ (.slice oa1 o1.length oc1)).heap.size _ (o1) rfl hO1.out (cutP c) [.int .i64 3, .int .i64 c, .slice none 0 0, .int .i64 0, .int .i64 0, .bool false, .string ⟨#[]⟩] _ rfl (by first | rfl | simp) rfl (⟨.slice none 0 0, rfl, RdS.nil⟩ : RPb B _ _ _ (cutP c)) (by first | omega | (simp; omega)) hBs1 (Nat.le_refl _) ?_; intro v2 w2 ho2 hb2 hz2 hk2; rw [E2.out] at ho2; obtain ⟨oa2, oc2, rfl⟩ := len_nil ho2; have H2 := Lib.hid (H1.out.grow (b' := (w1.setCell ⟨go, 0, none⟩ (.slice oa1 o1.length oc1)).heap.size) hBs1 (Nat.le_of_lt hz2) hk2 ho2); have KA2 := Lib.hid (fun k (hT : Ty 126 (w1.setCell ⟨go, 0, none⟩ (.slice oa1 o1.length oc1)) k) => H1.out.keepA hk2 (.slice oa2 o2.length oc2) hT); have k0 := (hk2 go H1.out.lt.2.1 (H1.out.O.ne H1.out.ho (by decide))).trans H1.out.ho; have k1 := fz1 k0; have k2 := cell1 k0; obtain ⟨m0, m1, m2, y0, y1, y2⟩ := H2.out.cells; have hb2' := Lib.hid ((hb1'.out.trans hb2).setCell (p := ⟨go, 0, none⟩) hge.2.1 (.slice oa2 o2.length oc2)); obtain ⟨f1, f2⟩ := H2.out.after (.slice none 0 0); have hO2 := Lib.hid H2.out.raise.O; have hBs2 : B ≤ (w2.setCell ⟨go, 0, none⟩ (.slice oa2 o2.length oc2)).heap.size := (by have := H2.out.hs; have := H2.out.hB; omega); clear k0 ho2 hk2))
      have T := Lib.hid (H2.out.reset)
      have KK := Lib.hid (fun k (hT : Ty 126 w k) => (H2.out.keepR (tyto hT ((KA2.out k (tyto hT (KA1.out k hT))).trans (KA1.out k hT)))).trans ((KA2.out k (tyto hT (KA1.out k hT))).trans (KA1.out k hT)))
      have hB1 := Lib.hid (((hb2'.out.setCell (p := ⟨gp, 0, none⟩) hge.1 (.slice none 0 0)).setCell (p := ⟨gc, 0, none⟩) hge.2.2 (.int .i64 0)))
      go_wp2
      go_end0
      exact ⟨rfl, ⟨_, _, by rw [hres2.out]; simpa using T.out⟩, hB1.out, KK.out⟩
end Go.Proofs.Ytgodceplajkcdaa
