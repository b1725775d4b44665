/- The references on operations: acts made an operation again: the loop. -/
import Derived.Test.YtgodceplajkcdaaRefT
import Derived.BigQuiet
namespace Go.Proofs.Ytgodceplajkcdaa
open Go.RowKit Go.Mh

theorem own_ge {α : Type} {b e sz k : Nat} {R : World → List Value → α → Prop} {w : World} {v : Value} {L : List α} (h : OwnS b e sz R w v L) (hk : v.ownBlock = some k) : b ≤ k ∧ k < w.heap.size ∧ Ty e w k := by
  obtain ⟨css, ⟨_, h1⟩, _⟩ := h
  rcases h1 with ⟨rfl, _⟩ | ⟨g', cap, cur, rfl, hg, hh, _⟩
  · simp [Value.ownBlock] at hk
  · simp [Value.ownBlock] at hk
    subst hk
    exact ⟨hg, lt_of_heap hh, cur, _, hh⟩

section
variable {B gp go gc : Nat} {w w' : World} {pv ov : Value} {out : List Pt} {ps : List It} {c b : Nat}
theorem Td.put (h : Td B gp go gc w pv ov out ps c b) (hz : w.heap.size ≤ w'.heap.size) {pv' : Value} {ps' : List It} (hk : ∀ k, k < w.heap.size → some k ≠ pv.ownBlock → w'.heap[k]? = w.heap[k]?) (hP : OwnS b 42 3 RIt w' pv' ps') :
    Td B gp go gc (w'.setCell ⟨gp, 0, none⟩ pv') pv' ov out ps' c b := by
  have k1 := (hk gp (lt_of_heap h.t.hp) (h.P.ne h.t.hp (by decide))).trans h.t.hp
  have k2 := (hk go (lt_of_heap h.t.ho) (h.P.ne h.t.ho (by decide))).trans h.t.ho
  have k3 := (hk gc (lt_of_heap h.t.hc) (h.P.ne h.t.hc (by decide))).trans h.t.hc
  obtain ⟨n1, n2, _⟩ := h.t.ne
  have hO : OwnS B 57 7 (RPb B b) w' ov out := h.t.O.to (fun k hke hkl => hk k hkl (by
    obtain ⟨_, _, xs, fr, e⟩ := own_ge h.t.O hke
    exact h.P.ne e (by decide))) fun _ _ _ r => r.keep (Nat.le_refl _) fun k hkb _ => hk k (by have := h.t.hs; omega) (fun e => by have := (own_ge h.P e.symm).1; omega)
  have hset : ∀ k, k ≠ gp → (w'.setCell ⟨gp, 0, none⟩ pv').heap[k]? = w'.heap[k]? := fun k hn => heap_setCell_other w' _ k _ hn
  refine ⟨⟨?_, (hset go (Ne.symm n1)).trans k2, (hset gc (Ne.symm n2)).trans k3, ?_, by have := h.t.hs; simp; omega, h.t.hB⟩, ?_⟩
  · have := heap_setCell_same w' gp 0 _ _ pv' k1
    simpa using this
  · exact hO.to (fun k hke _ => hset k (fun e => by subst e; exact hO.ne k1 (by decide) hke.symm)) fun _ _ _ r => r.keep (Nat.le_refl _) fun k _ hT => hset k (hT.ne k1 (by decide))
  · exact hP.to (fun k hke _ => hset k (fun e => by subst e; exact hP.ne k1 (by decide) hke.symm)) fun _ _ _ r => r
theorem Td.cut (h : Td B gp go gc w pv ov out ps c b) : Td B gp go gc (w.setCell ⟨gc, 0, none⟩ (.int .i64 ((c : Int) + 1))) pv ov out ps (c + 1) b := by
  obtain ⟨_, n2, n3⟩ := h.t.ne
  have hset : ∀ k, k ≠ gc → (w.setCell ⟨gc, 0, none⟩ (.int .i64 ((c : Int) + 1))).heap[k]? = w.heap[k]? := fun k hn => heap_setCell_other w _ k _ hn
  have c2 := heap_setCell_same w gc 0 _ _ (.int .i64 ((c : Int) + 1)) h.t.hc
  refine ⟨⟨(hset gp n2).trans h.t.hp, (hset go n3).trans h.t.ho, by simpa using c2, ?_, by have := h.t.hs; simpa using this, h.t.hB⟩, ?_⟩
  · exact h.t.O.to (fun k hke _ => hset k (fun e => by subst e; exact h.t.O.ne h.t.hc (by decide) hke.symm)) fun _ _ _ r => r.keep (Nat.le_refl _) fun k _ hT => hset k (hT.ne h.t.hc (by decide))
  · exact h.P.to (fun k hke _ => hset k (fun e => by subst e; exact h.P.ne h.t.hc (by decide) hke.symm)) fun _ _ _ r => r
theorem Td.row (h : Td B gp go gc w pv ov out ps c b) {g i : Nat} {u : Value} (hg : ov.ownBlock = some g) {out' : List Pt} (hO : OwnS B 57 7 (RPb B b) (w.setCell ⟨g, i, none⟩ u) ov out') : Td B gp go gc (w.setCell ⟨g, i, none⟩ u) pv ov out' ps c b := by
  have hset : ∀ k, k ≠ g → (w.setCell ⟨g, i, none⟩ u).heap[k]? = w.heap[k]? := fun k hn => heap_setCell_other w _ k _ hn
  obtain ⟨_, _, xs, fr, e0⟩ := own_ge h.t.O hg
  have ne : ∀ {k T : Nat} {ys : Array Value} {f2 : Nat × Nat}, w.heap[k]? = some (.cells ys T f2) → T ≠ 57 → k ≠ g := fun {k T ys f2} hk hT e => by
    subst e; rw [hk] at e0; simp at e0; exact hT e0.2.1
  refine ⟨⟨(hset gp (ne h.t.hp (by decide))).trans h.t.hp, (hset go (ne h.t.ho (by decide))).trans h.t.ho, (hset gc (ne h.t.hc (by decide))).trans h.t.hc, hO, by have := h.t.hs; simpa using this, h.t.hB⟩, ?_⟩
  exact h.P.to (fun k hke _ => hset k (fun e => by
    obtain ⟨_, _, ys, f2, e2⟩ := own_ge h.P hke
    exact ne e2 (by decide) e)) fun _ _ _ r => r
end

theorem heap3 (w : World) (o1 o2 o3 : Obj) : (((w.alloc o1).alloc o2).alloc o3).heap[w.heap.size]? = some o1 ∧ (((w.alloc o1).alloc o2).alloc o3).heap[w.heap.size + 1]? = some o2 ∧ (((w.alloc o1).alloc o2).alloc o3).heap[w.heap.size + 1 + 1]? = some o3 := by
  have s1 : (w.alloc o1).heap.size = w.heap.size + 1 := by simp
  have s2 : ((w.alloc o1).alloc o2).heap.size = w.heap.size + 1 + 1 := by simp
  have h1 := heap_new w o1
  have h2 := heap_new (w.alloc o1) o2
  have h3 := heap_new ((w.alloc o1).alloc o2) o3
  rw [s1] at h2
  rw [s2] at h3
  refine ⟨?_, ?_, h3⟩
  · rw [(bal (brf ((w.alloc o1).alloc o2)) o3).block _ (by omega), (bal (brf (w.alloc o1)) o2).block _ (by omega)]; exact h1
  · rw [(bal (brf ((w.alloc o1).alloc o2)) o3).block _ (by omega)]; exact h2

theorem rowq {B b : Nat} {w : World} {a : Option Addr} {n cap : Nat} {L : List Pt} (h : OwnS B 57 7 (RPb B b) w (.slice a n cap) L) {j : Nat} {q : Pt} (hj : L[j]? = some q) :
    ∃ g, a = some ⟨g, 0, none⟩ ∧ w.cell? ⟨g, j * 7, none⟩ = some (.int .i64 q.k) ∧ w.cell? ⟨g, j * 7 + 1, none⟩ = some (.int .i64 q.n) ∧ w.cell? ⟨g, j * 7 + 3, none⟩ = some (.int .i64 q.set) ∧ w.cell? ⟨g, j * 7 + 4, none⟩ = some (.int .i64 q.clr) ∧ w.cell? ⟨g, j * 7 + 5, none⟩ = some (.bool q.to) ∧ w.cell? ⟨g, j * 7 + 6, none⟩ = some (str q.l) ∧ w.frozen? ⟨g, j * 7 + 1, none⟩ = false ∧ g < w.heap.size := by
  have hne : L ≠ [] := by rintro rfl; simp at hj
  obtain ⟨g, c1, cur, e1, _, hh⟩ := h.shape hne
  cases e1
  obtain ⟨a', c', e2, _, _, _, hel⟩ := h.rd
  cases e2
  obtain ⟨b', o', cs, e3, _, _, hat, sv, hcs, _⟩ := hel j q hj
  cases e3
  subst hcs
  obtain ⟨x0, x1, _, x3, x4, x5, x6⟩ := hat.seven
  simp only [Nat.zero_add] at x0 x1 x3 x4 x5 x6
  exact ⟨g, rfl, x0, x1, x3, x4, x5, x6, by simp [World.frozen?, hh], lt_of_heap hh⟩

theorem RActs.at {F : Nat → Prop} {w wr : World} {a : Option Addr} {n cap : Nat} {L : List Ac} (h : RActs F w (.slice a n cap) L) (hb : Below w.heap.size w wr) {k : Nat} {x : Ac} (hx : L[k]? = some x) :
    ∃ b o sv, a = some ⟨b, o, none⟩ ∧ E0 sv ∧ b < wr.heap.size ∧ ∀ j v, (acC sv x)[j]? = some v → wr.cell? ⟨b, o + k * 11 + j, none⟩ = some v := by
  obtain ⟨a', cap', e, _, _, _, hel⟩ := h
  cases e
  obtain ⟨b, o, cs, h1, _, hl, hat, sv, hE, hcs⟩ := hel k x hx
  subst hcs
  have hne : acC sv x ≠ [] := by intro e; rw [e] at hl; simp at hl
  have hat' := hat.to (hb.block b (hat.lt hne))
  exact ⟨b, o, sv, h1, hE, hat'.lt hne, hat'⟩
theorem tid_step {l : List Ac} {k : Nat} {x : Ac} (h : l[k]? = some x) (out : List Pt) (ps : List It) (c : Nat) : tid out ps c (l.drop k) = tid out ps c (x :: l.drop (k + 1)) := by
  obtain ⟨hlt, rfl⟩ := List.getElem?_eq_some_iff.1 h
  rw [List.drop_eq_getElem_cons hlt]

/-- How far what is out has come. -/
structure Lim (out : List Pt) (ps : List It) (c k : Nat) : Prop where
  lo : out.length ≤ 3 * k
  lp : ps.length ≤ k
  lc : c ≤ k
  ln : ∀ q ∈ out, 0 ≤ q.n ∧ q.n ≤ (k : Int)
theorem flush_len (out : List Pt) (ps : List It) (c : Nat) : (flush out ps c).length ≤ out.length + 2 := by
  unfold flush
  split <;> split <;> simp
theorem flush_n {out : List Pt} {ps : List It} {c k : Nat} (h : Lim out ps c k) : ∀ q ∈ flush out ps c, 0 ≤ q.n ∧ q.n ≤ (k : Int) := by
  intro q hq
  unfold flush at hq
  simp only [List.mem_append] at hq
  rcases hq with (hq | hq) | hq
  · exact h.ln q hq
  · split at hq
    · simp at hq
    · simp at hq; subst hq; simp [putP]
  · split at hq
    · simp at hq
    · simp at hq; subst hq; have := h.lc; simp [cutP]; omega
theorem Lim.put {out : List Pt} {ps : List It} {c k : Nat} (h : Lim out ps c k) (x : It) : Lim out (ps ++ [x]) c (k + 1) := ⟨by have := h.lo; omega, by have := h.lp; simp; omega, by have := h.lc; omega, fun q hq => by have := h.ln q hq; omega⟩
theorem Lim.cut {out : List Pt} {ps : List It} {c k : Nat} (h : Lim out ps c k) : Lim out ps (c + 1) (k + 1) := ⟨by have := h.lo; omega, by have := h.lp; omega, by have := h.lc; omega, fun q hq => by have := h.ln q hq; omega⟩
theorem Lim.keep {out : List Pt} {ps : List It} {c k : Nat} (h : Lim out ps c k) (d : Kd) : Lim (addK (flush out ps c) d 1) [] 0 (k + 1) := by
  have hl := flush_len out ps c
  have hn := flush_n h
  have ho := h.lo
  refine ⟨?_, by simp, by omega, ?_⟩
  · unfold addK
    split
    · split
      · simp; omega
      · simp; omega
    · simp; omega
  · intro q hq
    unfold addK at hq
    split at hq
    · rename_i q0 hl0
      have hm := List.mem_of_getLast? hl0
      split at hq
      · simp at hq
        rcases hq with hq | rfl
        · have := hn q ((List.dropLast_subset _ hq)); omega
        · have := hn q0 hm; simp; omega
      · simp at hq
        rcases hq with hq | rfl
        · have := hn q hq; omega
        · simp [keepP]; omega
    · simp at hq
      rcases hq with hq | rfl
      · have := hn q hq; omega
      · simp [keepP]; omega

set_option maxRecDepth 100000 in
set_option maxHeartbeats 16000000 in
theorem refTidied_any (F : Nat → Prop) (v : Value) (l : List Ac) (w : World) (h : RActs F w v l) (hmax : l.length ≤ 20000) :
    Calls Try.prog 97 #[v] w fun e w' => ∃ r, e = .returned r ∧ ROp (w.heap.size ≤ ·) w' r (tidyA l) ∧ Below w.heap.size w w' := by
  obtain ⟨a, cap, rfl, hn⟩ := RdS.len h
  have H := Lib.hid h
  clear h
  go_enter Try.func97, Try.ntmps97
  go_wp2
  go_loopw [13] (fun i wr => ∃ (k : Nat) (out : List Pt) (ps : List It) (c : Nat) (pv ov : Value) (b : Nat), k ≤ l.length ∧ i = .int .i64 k ∧ Td w.heap.size (w.heap.size + 1) w.heap.size (w.heap.size + 1 + 1) wr pv ov out ps c b ∧ Hid (tidyA l = tid out ps c (l.drop k)) ∧ Lim out ps c k ∧ Below w.heap.size w wr) (fun i _ => l.length - (intOf i).toNat)
  case atStart =>
    obtain ⟨h1, h2, h3⟩ := heap3 w (.cells #[.slice none 0 0] 53) (.cells #[.slice none 0 0] 37) (.cells #[.int .i64 0] 3)
    exact ⟨0, [], [], 0, .slice none 0 0, .slice none 0 0, w.heap.size + 1 + 1 + 1, Nat.zero_le _, rfl, ⟨⟨h2, h1, h3, OwnS.nil, by simp, by omega⟩, OwnS.nil⟩, Lib.hid rfl, ⟨by simp, by simp, by simp, fun q hq => by simp at hq⟩, bal (bal (bal (brf w) _) _) _⟩
  case round =>
    obtain ⟨k, out, ps, c, pv, ov, b, hk, rfl, hT, hst, hlim, hb⟩ := hrel
    have T := Lib.hid hT
    have HL := Lib.hid hlim
    have hz := hb.size
    obtain ⟨pa, pc, rfl⟩ := len_nil hT.P
    obtain ⟨oa, oc, rfl⟩ := len_nil hT.t.O
    have lm1 := hlim.lo
    have lm2 := hlim.lp
    have lm3 := hlim.lc
    clear hT hlim
    by_cases hlt : k < l.length
    · obtain ⟨x, hx⟩ : ∃ x, l[k]? = some x := ⟨_, List.getElem?_eq_getElem hlt⟩
      obtain ⟨b0, o0, sv, rfl, hE, hb0, hcell⟩ := RActs.at H.out hb hx
      have hs := Lib.hid (hst.out.trans (tid_step hx out ps c))
      clear hst hx
      obtain ⟨sa, sc, rfl, hsm⟩ := hE
      cases x with
      | put x =>
        have c0 : wr.cell? ⟨b0, o0 + k * 11, none⟩ = some _ := hcell 0 _ rfl
        have c1 := hcell 1 _ rfl
        have c2 := hcell 2 _ rfl
        have c3 := hcell 3 _ rfl
        have c4 := hcell 4 _ rfl
        have c5 := hcell 5 _ rfl
        have c6 := hcell 6 _ rfl
        have c7 := hcell 7 _ rfl
        have c8 := hcell 8 _ rfl
        have c9 := hcell 9 _ rfl
        have c10 := hcell 10 _ rfl
        clear hcell
        have T1 := Lib.hid (T.out.below (bal (brf wr) (.cells #[.int .i64 2, .int .u8 x.c.toNat, .int .i64 x.m, str x.l, .int .i64 0, .int .i64 0, .slice none 0 0, .int .i64 0, .int .i64 0, .bool false, .string ⟨#[]⟩] 126)))
        obtain ⟨m0, m1, m2, y0, y1, y2⟩ := T1.out.t.cells
        have hbs := T.out.t.hs
        have hbB := T.out.t.hB
        obtain ⟨ps1, q1⟩ : ∃ o, ps ++ [x] = o := ⟨_, rfl⟩
        have hs1 := Lib.hid (hs.out.trans (by rw [← q1]; rfl : _ = tid out ps1 c (l.drop (k + 1))))
        have HL1 := Lib.hid (show Lim out ps1 c (k + 1) by rw [← q1]; exact HL.out.put x)
        have E1 := Lib.hid q1
        clear q1 hs HL
        go_wp2_with (at_builtin; refine wpList_app1 rfl (.tmp 93) (.tmp 96) 37 rfl b 42 3 32 _ elItems RIt _ ps rfl T1.out.P x [.int .u8 x.c.toNat, .int .i64 x.m, str x.l] 42 _ rfl (by first | rfl | simp) rfl (fun _ _ => rfl) RIt_one (by unfold maxLen; omega) (by omega) (by first | omega | (simp; omega)) (fun _ _ _ _ _ r => r) ?_; intro v2 w2 ho2 hb2 hz2 hk2; rw [E1.out] at ho2; obtain ⟨pa2, pc2, rfl⟩ := len_nil ho2; have T2 := Lib.hid (T1.out.put (Nat.le_of_lt hz2) hk2 ho2); have k0 := (hk2 (w.heap.size + 1) T1.out.t.lt.1 (T1.out.P.ne T1.out.t.hp (by decide))).trans T1.out.t.hp; have k1 := fz1 k0; have k2 := cell1 k0; have hB2 := Lib.hid (((bal hb (.cells #[.int .i64 2, .int .u8 x.c.toNat, .int .i64 x.m, str x.l, .int .i64 0, .int .i64 0, .slice none 0 0, .int .i64 0, .int .i64 0, .bool false, .string ⟨#[]⟩] 126)).trans (hb2.mono hbB)).setCell (p := ⟨w.heap.size + 1, 0, none⟩) (by simp) (.slice pa2 ps1.length pc2)); clear k0 hk2 ho2)
        go_roundw
        case rel => exact ⟨k + 1, out, ps1, c, _, _, b, by omega, by go_num, T2.out, hs1, HL1.out, hB2.out⟩
        case measure => simp [intOf]; omega
      | cut =>
        have c0 : wr.cell? ⟨b0, o0 + k * 11, none⟩ = some _ := hcell 0 _ rfl
        have c1 := hcell 1 _ rfl
        have c2 := hcell 2 _ rfl
        have c3 := hcell 3 _ rfl
        have c4 := hcell 4 _ rfl
        have c5 := hcell 5 _ rfl
        have c6 := hcell 6 _ rfl
        have c7 := hcell 7 _ rfl
        have c8 := hcell 8 _ rfl
        have c9 := hcell 9 _ rfl
        have c10 := hcell 10 _ rfl
        clear hcell
        have T1 := Lib.hid (T.out.below (bal (brf wr) (.cells #[.int .i64 3, .int .u8 0, .int .i64 0, .string ⟨#[]⟩, .int .i64 3, .int .i64 1, .slice sa 0 sc, .int .i64 0, .int .i64 0, .bool false, str []] 126)))
        obtain ⟨m0, m1, m2, y0, y1, y2⟩ := T1.out.t.cells
        have hs1 := Lib.hid (hs.out : _ = tid out ps (c + 1) (l.drop (k + 1)))
        have HL1 := Lib.hid HL.out.cut
        have hw : wrap64 ((c : Int) + 1) = (c : Int) + 1 := by unfold wrap64; omega
        have T2 := Lib.hid T1.out.cut
        have hB2 := Lib.hid ((bal hb (.cells #[.int .i64 3, .int .u8 0, .int .i64 0, .string ⟨#[]⟩, .int .i64 3, .int .i64 1, .slice sa 0 sc, .int .i64 0, .int .i64 0, .bool false, str []] 126)).setCell (p := ⟨w.heap.size + 1 + 1, 0, none⟩) (by simp; omega) (.int .i64 ((c : Int) + 1)))
        clear hs HL
        go_wp2
        go_roundw
        case rel => exact ⟨k + 1, out, ps, c + 1, _, _, b, by omega, by go_num, T2.out, hs1, HL1.out, hB2.out⟩
        case measure => simp [intOf]; omega
      | keep d =>
        obtain ⟨s, z, t, lk⟩ := d
        have c0 : wr.cell? ⟨b0, o0 + k * 11, none⟩ = some _ := hcell 0 _ rfl
        have c1 := hcell 1 _ rfl
        have c2 := hcell 2 _ rfl
        have c3 := hcell 3 _ rfl
        have c4 := hcell 4 _ rfl
        have c5 := hcell 5 _ rfl
        have c6 := hcell 6 _ rfl
        have c7 := hcell 7 _ rfl
        have c8 := hcell 8 _ rfl
        have c9 := hcell 9 _ rfl
        have c10 := hcell 10 _ rfl
        clear hcell
        have T1 := Lib.hid (T.out.below (bal (brf wr) (.cells #[.int .i64 1, .int .u8 0, .int .i64 0, .string ⟨#[]⟩, .int .i64 1, .int .i64 1, .slice sa 0 sc, .int .i64 s, .int .i64 z, .bool t, str lk] 126)))
        go_wp2_with fail
        refine (flush_any T1.out ⟨by omega, by omega, by omega⟩ (by omega)).mono ?_
        rintro e w2 ⟨rfl, ⟨ov2, b2, hT2⟩, hb2, hkA⟩
        have hbx := (hkA wr.heap.size ⟨_, _, heap_new wr _⟩).trans (heap_new wr _)
        have p4 : w2.cell? ⟨wr.heap.size, 4, none⟩ = some (.int .i64 1) := by unfold World.cell?; rw [hbx]; rfl
        have p5 : w2.cell? ⟨wr.heap.size, 5, none⟩ = some (.int .i64 1) := by unfold World.cell?; rw [hbx]; rfl
        have p6 : w2.cell? ⟨wr.heap.size, 6, none⟩ = some (.slice sa 0 sc) := by unfold World.cell?; rw [hbx]; rfl
        have p7 : w2.cell? ⟨wr.heap.size, 7, none⟩ = some (.int .i64 s) := by unfold World.cell?; rw [hbx]; rfl
        have p8 : w2.cell? ⟨wr.heap.size, 8, none⟩ = some (.int .i64 z) := by unfold World.cell?; rw [hbx]; rfl
        have p9 : w2.cell? ⟨wr.heap.size, 9, none⟩ = some (.bool t) := by unfold World.cell?; rw [hbx]; rfl
        have p10 : w2.cell? ⟨wr.heap.size, 10, none⟩ = some (str lk) := by unfold World.cell?; rw [hbx]; rfl
        have hbxl : wr.heap.size < w2.heap.size := lt_of_heap hbx
        have hB2 := Lib.hid ((bal hb (.cells #[.int .i64 1, .int .u8 0, .int .i64 0, .string ⟨#[]⟩, .int .i64 1, .int .i64 1, .slice sa 0 sc, .int .i64 s, .int .i64 z, .bool t, str lk] 126)).trans hb2)
        have lo1 : (flush out ps c).length ≤ 60010 := by have := flush_len out ps c; omega
        have hs1 := hs.out
        rw [show tid out ps c (.keep ⟨s, z, t, lk⟩ :: l.drop (k + 1)) = tid (addK (flush out ps c) ⟨s, z, t, lk⟩ 1) [] 0 (l.drop (k + 1)) from rfl] at hs1
        have hL1 := HL.out.keep ⟨s, z, t, lk⟩
        have hn1 := flush_n HL.out
        have hk2 : (k : Int) ≤ 20000 := by omega
        clear hs HL T T1 hkA hb2 hbx c0 c1 c2 c3 c4 c5 c6 c7 c8 c9 c10
        generalize flush out ps c = o1 at *
        obtain ⟨oa2, oc2, rfl⟩ := len_nil hT2.t.O
        have T2 := Lib.hid hT2
        obtain ⟨m0, m1, m2, y0, y1, y2⟩ := hT2.t.cells
        have hE : Hid (RPb w.heap.size b2 w2 [.int .i64 1, .int .i64 1, .slice sa 0 sc, .int .i64 s, .int .i64 z, .bool t, str lk] (keepP ⟨s, z, t, lk⟩ 1)) := Lib.hid ⟨_, rfl, E0.its ⟨_, _, rfl, hsm⟩ _ _⟩
        clear hT2
        rcases List.eq_nil_or_concat o1 with he | ⟨o', q, he⟩
        · have hw0 : decide ((1 : Int) ≤ (o1.length : Int)) = false := by rw [he]; rfl
          have he' := Lib.hid he
          clear he
          go_wp2_with fail
          go_quiet (fail)
          have T3 := Lib.hid (T2.out.below (bdrewN (brf w2) nq))
          have hB3 := Lib.hid (bdrewN hB2.out nq)
          have hE3 := Lib.hid (hE.out.keep (w' := w2.drewN nq) (Nat.le_refl _) (fun _ _ _ => rfl))
          have hz3 : w.heap.size ≤ (w2.drewN nq).heap.size := (bdrewN hB2.out nq).size
          replace p4 := ((bdrewN (brf w2) nq).cell (p := ⟨wr.heap.size, 4, none⟩) hbxl).trans p4
          replace p5 := ((bdrewN (brf w2) nq).cell (p := ⟨wr.heap.size, 5, none⟩) hbxl).trans p5
          replace p6 := ((bdrewN (brf w2) nq).cell (p := ⟨wr.heap.size, 6, none⟩) hbxl).trans p6
          replace p7 := ((bdrewN (brf w2) nq).cell (p := ⟨wr.heap.size, 7, none⟩) hbxl).trans p7
          replace p8 := ((bdrewN (brf w2) nq).cell (p := ⟨wr.heap.size, 8, none⟩) hbxl).trans p8
          replace p9 := ((bdrewN (brf w2) nq).cell (p := ⟨wr.heap.size, 9, none⟩) hbxl).trans p9
          replace p10 := ((bdrewN (brf w2) nq).cell (p := ⟨wr.heap.size, 10, none⟩) hbxl).trans p10
          clear m0 m1 m2 y0 y1 y2
          obtain ⟨m0, m1, m2, y0, y1, y2⟩ := T3.out.t.cells
          clear T2 hE hbxl hB2
          generalize w2.drewN nq = w3 at *
          have ha2 : addK o1 ⟨s, z, t, lk⟩ 1 = o1 ++ [keepP ⟨s, z, t, lk⟩ 1] := addK_new (out := o1) (k := ⟨s, z, t, lk⟩) 1 (fun q' hq => by rw [he'.out] at hq; simp at hq)
          obtain ⟨o2, q2⟩ : ∃ o, o1 ++ [keepP ⟨s, z, t, lk⟩ 1] = o := ⟨_, rfl⟩
          rw [ha2, q2] at hs1 hL1
          have hs2 := Lib.hid hs1
          have HL2 := Lib.hid hL1
          have E2 := Lib.hid q2
          clear hs1 hL1 q2 ha2
          go_wp2_with (at_builtin; refine wpList_appB rfl (.tmp 86) (.tmp 89) rfl w.heap.size b2 _ o1 rfl T3.out.t.O (keepP ⟨s, z, t, lk⟩ 1) [.int .i64 1, .int .i64 1, .slice sa 0 sc, .int .i64 s, .int .i64 z, .bool t, str lk] _ rfl (by first | rfl | simp) rfl hE3.out (by omega) hz3 T3.out.t.hs ?_; intro v4 w4 ho4 hb4 hz4 hk4; rw [E2.out] at ho4; obtain ⟨oa4, oc4, rfl⟩ := len_nil ho4; have T4 := Lib.hid (T3.out.grow (Nat.le_of_lt hz4) hk4 ho4); have k0 := (hk4 w.heap.size T3.out.t.lt.2.1 (T3.out.t.O.ne T3.out.t.ho (by decide))).trans T3.out.t.ho; have k1 := fz1 k0; have k2 := cell1 k0; have hB4 := Lib.hid ((hB3.out.trans hb4).setCell (p := ⟨w.heap.size, 0, none⟩) (Nat.le_refl _) (.slice oa4 o2.length oc4)); clear k0 hk4 ho4)
          go_roundw
          case rel => exact ⟨k + 1, o2, [], 0, _, _, b2, by omega, by go_num, T4.out, hs2, HL2.out, hB4.out⟩
          case measure => simp [intOf]; omega
        · rw [List.concat_eq_append] at he
          have hpos : 0 < o1.length := by rw [he]; simp
          have hw3 : decide ((1 : Int) ≤ (o1.length : Int)) = true := by simp; omega
          have hlt3 : ((o1.length - 1 : Nat) : Int) < (o1.length : Int) := by omega
          have hlast : o1.getLast? = some q := by rw [he]; simp
          obtain ⟨g, e0, r0, r1, r3, r4, r5, r6, rf, hgl⟩ := rowq T2.out.t.O (j := o1.length - 1) (q := q) (by rw [he]; simp)
          cases e0
          have hqn := hn1 q (by rw [he]; simp)
          have he' := Lib.hid he
          have hlast' := Lib.hid hlast
          clear he
          cases h1 : (q.k == 1) with
          | false =>
            have hns : Hid (¬ (q.k = 1 ∧ q.kd = ⟨s, z, t, lk⟩)) := Lib.hid (fun hc => by rw [hc.1] at h1; simp at h1)
            go_wp2_with fail
            go_quiet (fail)
            clear r0 r1 r3 r4 r5 r6 rf hlast
            have T3 := Lib.hid (T2.out.below (bdrewN (brf w2) nq))
            have hB3 := Lib.hid (bdrewN hB2.out nq)
            have hE3 := Lib.hid (hE.out.keep (w' := w2.drewN nq) (Nat.le_refl _) (fun _ _ _ => rfl))
            have hz3 : w.heap.size ≤ (w2.drewN nq).heap.size := (bdrewN hB2.out nq).size
            replace p4 := ((bdrewN (brf w2) nq).cell (p := ⟨wr.heap.size, 4, none⟩) hbxl).trans p4
            replace p5 := ((bdrewN (brf w2) nq).cell (p := ⟨wr.heap.size, 5, none⟩) hbxl).trans p5
            replace p6 := ((bdrewN (brf w2) nq).cell (p := ⟨wr.heap.size, 6, none⟩) hbxl).trans p6
            replace p7 := ((bdrewN (brf w2) nq).cell (p := ⟨wr.heap.size, 7, none⟩) hbxl).trans p7
            replace p8 := ((bdrewN (brf w2) nq).cell (p := ⟨wr.heap.size, 8, none⟩) hbxl).trans p8
            replace p9 := ((bdrewN (brf w2) nq).cell (p := ⟨wr.heap.size, 9, none⟩) hbxl).trans p9
            replace p10 := ((bdrewN (brf w2) nq).cell (p := ⟨wr.heap.size, 10, none⟩) hbxl).trans p10
            clear m0 m1 m2 y0 y1 y2
            obtain ⟨m0, m1, m2, y0, y1, y2⟩ := T3.out.t.cells
            clear T2 hE hbxl hB2
            generalize w2.drewN nq = w3 at *
            have ha2 : addK o1 ⟨s, z, t, lk⟩ 1 = o1 ++ [keepP ⟨s, z, t, lk⟩ 1] := addK_new (out := o1) (k := ⟨s, z, t, lk⟩) 1 (fun q' hq => by rw [hlast'.out] at hq; cases hq; exact hns.out)
            obtain ⟨o2, q2⟩ : ∃ o, o1 ++ [keepP ⟨s, z, t, lk⟩ 1] = o := ⟨_, rfl⟩
            rw [ha2, q2] at hs1 hL1
            have hs2 := Lib.hid hs1
            have HL2 := Lib.hid hL1
            have E2 := Lib.hid q2
            clear hs1 hL1 q2 ha2
            go_wp2_with (at_builtin; refine wpList_appB rfl (.tmp 86) (.tmp 89) rfl w.heap.size b2 _ o1 rfl T3.out.t.O (keepP ⟨s, z, t, lk⟩ 1) [.int .i64 1, .int .i64 1, .slice sa 0 sc, .int .i64 s, .int .i64 z, .bool t, str lk] _ rfl (by first | rfl | simp) rfl hE3.out (by omega) hz3 T3.out.t.hs ?_; intro v4 w4 ho4 hb4 hz4 hk4; rw [E2.out] at ho4; obtain ⟨oa4, oc4, rfl⟩ := len_nil ho4; have T4 := Lib.hid (T3.out.grow (Nat.le_of_lt hz4) hk4 ho4); have k0 := (hk4 w.heap.size T3.out.t.lt.2.1 (T3.out.t.O.ne T3.out.t.ho (by decide))).trans T3.out.t.ho; have k1 := fz1 k0; have k2 := cell1 k0; have hB4 := Lib.hid ((hB3.out.trans hb4).setCell (p := ⟨w.heap.size, 0, none⟩) (Nat.le_refl _) (.slice oa4 o2.length oc4)); clear k0 hk4 ho4)
            go_roundw
            case rel => exact ⟨k + 1, o2, [], 0, _, _, b2, by omega, by go_num, T4.out, hs2, HL2.out, hB4.out⟩
            case measure => simp [intOf]; omega
          | true =>
            cases h3 : (q.set == s) with
            | false =>
              have hns : Hid (¬ (q.k = 1 ∧ q.kd = ⟨s, z, t, lk⟩)) := Lib.hid (fun hc => by have := congrArg Kd.set hc.2; simp [Pt.kd] at this; simp [this] at h3)
              go_wp2_with fail
              go_quiet (fail)
              clear r0 r1 r3 r4 r5 r6 rf hlast
              have T3 := Lib.hid (T2.out.below (bdrewN (brf w2) nq))
              have hB3 := Lib.hid (bdrewN hB2.out nq)
              have hE3 := Lib.hid (hE.out.keep (w' := w2.drewN nq) (Nat.le_refl _) (fun _ _ _ => rfl))
              have hz3 : w.heap.size ≤ (w2.drewN nq).heap.size := (bdrewN hB2.out nq).size
              replace p4 := ((bdrewN (brf w2) nq).cell (p := ⟨wr.heap.size, 4, none⟩) hbxl).trans p4
              replace p5 := ((bdrewN (brf w2) nq).cell (p := ⟨wr.heap.size, 5, none⟩) hbxl).trans p5
              replace p6 := ((bdrewN (brf w2) nq).cell (p := ⟨wr.heap.size, 6, none⟩) hbxl).trans p6
              replace p7 := ((bdrewN (brf w2) nq).cell (p := ⟨wr.heap.size, 7, none⟩) hbxl).trans p7
              replace p8 := ((bdrewN (brf w2) nq).cell (p := ⟨wr.heap.size, 8, none⟩) hbxl).trans p8
              replace p9 := ((bdrewN (brf w2) nq).cell (p := ⟨wr.heap.size, 9, none⟩) hbxl).trans p9
              replace p10 := ((bdrewN (brf w2) nq).cell (p := ⟨wr.heap.size, 10, none⟩) hbxl).trans p10
              clear m0 m1 m2 y0 y1 y2
              obtain ⟨m0, m1, m2, y0, y1, y2⟩ := T3.out.t.cells
              clear T2 hE hbxl hB2
              generalize w2.drewN nq = w3 at *
              have ha2 : addK o1 ⟨s, z, t, lk⟩ 1 = o1 ++ [keepP ⟨s, z, t, lk⟩ 1] := addK_new (out := o1) (k := ⟨s, z, t, lk⟩) 1 (fun q' hq => by rw [hlast'.out] at hq; cases hq; exact hns.out)
              obtain ⟨o2, q2⟩ : ∃ o, o1 ++ [keepP ⟨s, z, t, lk⟩ 1] = o := ⟨_, rfl⟩
              rw [ha2, q2] at hs1 hL1
              have hs2 := Lib.hid hs1
              have HL2 := Lib.hid hL1
              have E2 := Lib.hid q2
              clear hs1 hL1 q2 ha2
              go_wp2_with (at_builtin; refine wpList_appB rfl (.tmp 86) (.tmp 89) rfl w.heap.size b2 _ o1 rfl T3.out.t.O (keepP ⟨s, z, t, lk⟩ 1) [.int .i64 1, .int .i64 1, .slice sa 0 sc, .int .i64 s, .int .i64 z, .bool t, str lk] _ rfl (by first | rfl | simp) rfl hE3.out (by omega) hz3 T3.out.t.hs ?_; intro v4 w4 ho4 hb4 hz4 hk4; rw [E2.out] at ho4; obtain ⟨oa4, oc4, rfl⟩ := len_nil ho4; have T4 := Lib.hid (T3.out.grow (Nat.le_of_lt hz4) hk4 ho4); have k0 := (hk4 w.heap.size T3.out.t.lt.2.1 (T3.out.t.O.ne T3.out.t.ho (by decide))).trans T3.out.t.ho; have k1 := fz1 k0; have k2 := cell1 k0; have hB4 := Lib.hid ((hB3.out.trans hb4).setCell (p := ⟨w.heap.size, 0, none⟩) (Nat.le_refl _) (.slice oa4 o2.length oc4)); clear k0 hk4 ho4)
              go_roundw
              case rel => exact ⟨k + 1, o2, [], 0, _, _, b2, by omega, by go_num, T4.out, hs2, HL2.out, hB4.out⟩
              case measure => simp [intOf]; omega
            | true =>
              cases h4 : (q.clr == z) with
              | false =>
                have hns : Hid (¬ (q.k = 1 ∧ q.kd = ⟨s, z, t, lk⟩)) := Lib.hid (fun hc => by have := congrArg Kd.clr hc.2; simp [Pt.kd] at this; simp [this] at h4)
                go_wp2_with fail
                go_quiet (fail)
                clear r0 r1 r3 r4 r5 r6 rf hlast
                have T3 := Lib.hid (T2.out.below (bdrewN (brf w2) nq))
                have hB3 := Lib.hid (bdrewN hB2.out nq)
                have hE3 := Lib.hid (hE.out.keep (w' := w2.drewN nq) (Nat.le_refl _) (fun _ _ _ => rfl))
                have hz3 : w.heap.size ≤ (w2.drewN nq).heap.size := (bdrewN hB2.out nq).size
                replace p4 := ((bdrewN (brf w2) nq).cell (p := ⟨wr.heap.size, 4, none⟩) hbxl).trans p4
                replace p5 := ((bdrewN (brf w2) nq).cell (p := ⟨wr.heap.size, 5, none⟩) hbxl).trans p5
                replace p6 := ((bdrewN (brf w2) nq).cell (p := ⟨wr.heap.size, 6, none⟩) hbxl).trans p6
                replace p7 := ((bdrewN (brf w2) nq).cell (p := ⟨wr.heap.size, 7, none⟩) hbxl).trans p7
                replace p8 := ((bdrewN (brf w2) nq).cell (p := ⟨wr.heap.size, 8, none⟩) hbxl).trans p8
                replace p9 := ((bdrewN (brf w2) nq).cell (p := ⟨wr.heap.size, 9, none⟩) hbxl).trans p9
                replace p10 := ((bdrewN (brf w2) nq).cell (p := ⟨wr.heap.size, 10, none⟩) hbxl).trans p10
                clear m0 m1 m2 y0 y1 y2
                obtain ⟨m0, m1, m2, y0, y1, y2⟩ := T3.out.t.cells
                clear T2 hE hbxl hB2
                generalize w2.drewN nq = w3 at *
                have ha2 : addK o1 ⟨s, z, t, lk⟩ 1 = o1 ++ [keepP ⟨s, z, t, lk⟩ 1] := addK_new (out := o1) (k := ⟨s, z, t, lk⟩) 1 (fun q' hq => by rw [hlast'.out] at hq; cases hq; exact hns.out)
                obtain ⟨o2, q2⟩ : ∃ o, o1 ++ [keepP ⟨s, z, t, lk⟩ 1] = o := ⟨_, rfl⟩
                rw [ha2, q2] at hs1 hL1
                have hs2 := Lib.hid hs1
                have HL2 := Lib.hid hL1
                have E2 := Lib.hid q2
                clear hs1 hL1 q2 ha2
                go_wp2_with (at_builtin; refine wpList_appB rfl (.tmp 86) (.tmp 89) rfl w.heap.size b2 _ o1 rfl T3.out.t.O (keepP ⟨s, z, t, lk⟩ 1) [.int .i64 1, .int .i64 1, .slice sa 0 sc, .int .i64 s, .int .i64 z, .bool t, str lk] _ rfl (by first | rfl | simp) rfl hE3.out (by omega) hz3 T3.out.t.hs ?_; intro v4 w4 ho4 hb4 hz4 hk4; rw [E2.out] at ho4; obtain ⟨oa4, oc4, rfl⟩ := len_nil ho4; have T4 := Lib.hid (T3.out.grow (Nat.le_of_lt hz4) hk4 ho4); have k0 := (hk4 w.heap.size T3.out.t.lt.2.1 (T3.out.t.O.ne T3.out.t.ho (by decide))).trans T3.out.t.ho; have k1 := fz1 k0; have k2 := cell1 k0; have hB4 := Lib.hid ((hB3.out.trans hb4).setCell (p := ⟨w.heap.size, 0, none⟩) (Nat.le_refl _) (.slice oa4 o2.length oc4)); clear k0 hk4 ho4)
                go_roundw
                case rel => exact ⟨k + 1, o2, [], 0, _, _, b2, by omega, by go_num, T4.out, hs2, HL2.out, hB4.out⟩
                case measure => simp [intOf]; omega
              | true =>
                cases h5 : (q.to == t) with
                | false =>
                  have hns : Hid (¬ (q.k = 1 ∧ q.kd = ⟨s, z, t, lk⟩)) := Lib.hid (fun hc => by have := congrArg Kd.to hc.2; simp [Pt.kd] at this; simp [this] at h5)
                  go_wp2_with fail
                  go_quiet (fail)
                  clear r0 r1 r3 r4 r5 r6 rf hlast
                  have T3 := Lib.hid (T2.out.below (bdrewN (brf w2) nq))
                  have hB3 := Lib.hid (bdrewN hB2.out nq)
                  have hE3 := Lib.hid (hE.out.keep (w' := w2.drewN nq) (Nat.le_refl _) (fun _ _ _ => rfl))
                  have hz3 : w.heap.size ≤ (w2.drewN nq).heap.size := (bdrewN hB2.out nq).size
                  replace p4 := ((bdrewN (brf w2) nq).cell (p := ⟨wr.heap.size, 4, none⟩) hbxl).trans p4
                  replace p5 := ((bdrewN (brf w2) nq).cell (p := ⟨wr.heap.size, 5, none⟩) hbxl).trans p5
                  replace p6 := ((bdrewN (brf w2) nq).cell (p := ⟨wr.heap.size, 6, none⟩) hbxl).trans p6
                  replace p7 := ((bdrewN (brf w2) nq).cell (p := ⟨wr.heap.size, 7, none⟩) hbxl).trans p7
                  replace p8 := ((bdrewN (brf w2) nq).cell (p := ⟨wr.heap.size, 8, none⟩) hbxl).trans p8
                  replace p9 := ((bdrewN (brf w2) nq).cell (p := ⟨wr.heap.size, 9, none⟩) hbxl).trans p9
                  replace p10 := ((bdrewN (brf w2) nq).cell (p := ⟨wr.heap.size, 10, none⟩) hbxl).trans p10
                  clear m0 m1 m2 y0 y1 y2
                  obtain ⟨m0, m1, m2, y0, y1, y2⟩ := T3.out.t.cells
                  clear T2 hE hbxl hB2
                  generalize w2.drewN nq = w3 at *
                  have ha2 : addK o1 ⟨s, z, t, lk⟩ 1 = o1 ++ [keepP ⟨s, z, t, lk⟩ 1] := addK_new (out := o1) (k := ⟨s, z, t, lk⟩) 1 (fun q' hq => by rw [hlast'.out] at hq; cases hq; exact hns.out)
                  obtain ⟨o2, q2⟩ : ∃ o, o1 ++ [keepP ⟨s, z, t, lk⟩ 1] = o := ⟨_, rfl⟩
                  rw [ha2, q2] at hs1 hL1
                  have hs2 := Lib.hid hs1
                  have HL2 := Lib.hid hL1
                  have E2 := Lib.hid q2
                  clear hs1 hL1 q2 ha2
                  go_wp2_with (at_builtin; refine wpList_appB rfl (.tmp 86) (.tmp 89) rfl w.heap.size b2 _ o1 rfl T3.out.t.O (keepP ⟨s, z, t, lk⟩ 1) [.int .i64 1, .int .i64 1, .slice sa 0 sc, .int .i64 s, .int .i64 z, .bool t, str lk] _ rfl (by first | rfl | simp) rfl hE3.out (by omega) hz3 T3.out.t.hs ?_; intro v4 w4 ho4 hb4 hz4 hk4; rw [E2.out] at ho4; obtain ⟨oa4, oc4, rfl⟩ := len_nil ho4; have T4 := Lib.hid (T3.out.grow (Nat.le_of_lt hz4) hk4 ho4); have k0 := (hk4 w.heap.size T3.out.t.lt.2.1 (T3.out.t.O.ne T3.out.t.ho (by decide))).trans T3.out.t.ho; have k1 := fz1 k0; have k2 := cell1 k0; have hB4 := Lib.hid ((hB3.out.trans hb4).setCell (p := ⟨w.heap.size, 0, none⟩) (Nat.le_refl _) (.slice oa4 o2.length oc4)); clear k0 hk4 ho4)
                  go_roundw
                  case rel => exact ⟨k + 1, o2, [], 0, _, _, b2, by omega, by go_num, T4.out, hs2, HL2.out, hB4.out⟩
                  case measure => simp [intOf]; omega
                | true =>
                  cases h6 : (q.l == lk) with
                  | false =>
                    have hns : Hid (¬ (q.k = 1 ∧ q.kd = ⟨s, z, t, lk⟩)) := Lib.hid (fun hc => by have := congrArg Kd.l hc.2; simp [Pt.kd] at this; simp [this] at h6)
                    go_wp2_with fail
                    go_quiet (fail)
                    clear r0 r1 r3 r4 r5 r6 rf hlast
                    have T3 := Lib.hid (T2.out.below (bdrewN (brf w2) nq))
                    have hB3 := Lib.hid (bdrewN hB2.out nq)
                    have hE3 := Lib.hid (hE.out.keep (w' := w2.drewN nq) (Nat.le_refl _) (fun _ _ _ => rfl))
                    have hz3 : w.heap.size ≤ (w2.drewN nq).heap.size := (bdrewN hB2.out nq).size
                    replace p4 := ((bdrewN (brf w2) nq).cell (p := ⟨wr.heap.size, 4, none⟩) hbxl).trans p4
                    replace p5 := ((bdrewN (brf w2) nq).cell (p := ⟨wr.heap.size, 5, none⟩) hbxl).trans p5
                    replace p6 := ((bdrewN (brf w2) nq).cell (p := ⟨wr.heap.size, 6, none⟩) hbxl).trans p6
                    replace p7 := ((bdrewN (brf w2) nq).cell (p := ⟨wr.heap.size, 7, none⟩) hbxl).trans p7
                    replace p8 := ((bdrewN (brf w2) nq).cell (p := ⟨wr.heap.size, 8, none⟩) hbxl).trans p8
                    replace p9 := ((bdrewN (brf w2) nq).cell (p := ⟨wr.heap.size, 9, none⟩) hbxl).trans p9
                    replace p10 := ((bdrewN (brf w2) nq).cell (p := ⟨wr.heap.size, 10, none⟩) hbxl).trans p10
                    clear m0 m1 m2 y0 y1 y2
                    obtain ⟨m0, m1, m2, y0, y1, y2⟩ := T3.out.t.cells
                    clear T2 hE hbxl hB2
                    generalize w2.drewN nq = w3 at *
                    have ha2 : addK o1 ⟨s, z, t, lk⟩ 1 = o1 ++ [keepP ⟨s, z, t, lk⟩ 1] := addK_new (out := o1) (k := ⟨s, z, t, lk⟩) 1 (fun q' hq => by rw [hlast'.out] at hq; cases hq; exact hns.out)
                    obtain ⟨o2, q2⟩ : ∃ o, o1 ++ [keepP ⟨s, z, t, lk⟩ 1] = o := ⟨_, rfl⟩
                    rw [ha2, q2] at hs1 hL1
                    have hs2 := Lib.hid hs1
                    have HL2 := Lib.hid hL1
                    have E2 := Lib.hid q2
                    clear hs1 hL1 q2 ha2
                    go_wp2_with (at_builtin; refine wpList_appB rfl (.tmp 86) (.tmp 89) rfl w.heap.size b2 _ o1 rfl T3.out.t.O (keepP ⟨s, z, t, lk⟩ 1) [.int .i64 1, .int .i64 1, .slice sa 0 sc, .int .i64 s, .int .i64 z, .bool t, str lk] _ rfl (by first | rfl | simp) rfl hE3.out (by omega) hz3 T3.out.t.hs ?_; intro v4 w4 ho4 hb4 hz4 hk4; rw [E2.out] at ho4; obtain ⟨oa4, oc4, rfl⟩ := len_nil ho4; have T4 := Lib.hid (T3.out.grow (Nat.le_of_lt hz4) hk4 ho4); have k0 := (hk4 w.heap.size T3.out.t.lt.2.1 (T3.out.t.O.ne T3.out.t.ho (by decide))).trans T3.out.t.ho; have k1 := fz1 k0; have k2 := cell1 k0; have hB4 := Lib.hid ((hB3.out.trans hb4).setCell (p := ⟨w.heap.size, 0, none⟩) (Nat.le_refl _) (.slice oa4 o2.length oc4)); clear k0 hk4 ho4)
                    go_roundw
                    case rel => exact ⟨k + 1, o2, [], 0, _, _, b2, by omega, by go_num, T4.out, hs2, HL2.out, hB4.out⟩
                    case measure => simp [intOf]; omega
                  | true =>
                    have hsame : Hid (q.k = 1 ∧ q.kd = ⟨s, z, t, lk⟩) := Lib.hid ⟨by simpa using h1, by simp [Pt.kd] at *; exact ⟨h3, h4, h5, h6⟩⟩
                    have hwn : wrap64 (q.n + 1) = q.n + 1 := by unfold wrap64; omega
                    have ha2 : addK o1 ⟨s, z, t, lk⟩ 1 = o1.set (o1.length - 1) { q with n := q.n + 1 } := by
                      rw [addK_some 1 hlast hsame.out, he'.out]
                      simp
                    obtain ⟨o2, q2⟩ : ∃ o, o1.set (o1.length - 1) { q with n := q.n + 1 } = o := ⟨_, rfl⟩
                    have hl2 : o2.length = o1.length := by rw [← q2]; simp
                    rw [ha2, q2] at hs1 hL1
                    have hs2 := Lib.hid hs1
                    have HL2 := Lib.hid hL1
                    have E2 := Lib.hid q2
                    have hjq : Hid (o1[o1.length - 1]? = some q) := Lib.hid (by rw [he'.out]; simp)
                    clear hs1 hL1 q2 ha2 hlast hsame
                    go_wp2_with fail
                    go_quiet (fail)
                    replace r1 := ((bdrewN (brf w2) nq).cell (p := ⟨g, (o1.length - 1) * 7 + 1, none⟩) hgl).trans r1
                    replace rf := ((bdrewN (brf w2) nq).frozen (p := ⟨g, (o1.length - 1) * 7 + 1, none⟩) hgl).trans rf
                    have T3 := Lib.hid (T2.out.below (bdrewN (brf w2) nq))
                    have hB3 := Lib.hid (bdrewN hB2.out nq)
                    have hE3 := Lib.hid (hE.out.keep (w' := w2.drewN nq) (Nat.le_refl _) (fun _ _ _ => rfl))
                    have hz3 : w.heap.size ≤ (w2.drewN nq).heap.size := (bdrewN hB2.out nq).size
                    replace p4 := ((bdrewN (brf w2) nq).cell (p := ⟨wr.heap.size, 4, none⟩) hbxl).trans p4
                    replace p5 := ((bdrewN (brf w2) nq).cell (p := ⟨wr.heap.size, 5, none⟩) hbxl).trans p5
                    replace p6 := ((bdrewN (brf w2) nq).cell (p := ⟨wr.heap.size, 6, none⟩) hbxl).trans p6
                    replace p7 := ((bdrewN (brf w2) nq).cell (p := ⟨wr.heap.size, 7, none⟩) hbxl).trans p7
                    replace p8 := ((bdrewN (brf w2) nq).cell (p := ⟨wr.heap.size, 8, none⟩) hbxl).trans p8
                    replace p9 := ((bdrewN (brf w2) nq).cell (p := ⟨wr.heap.size, 9, none⟩) hbxl).trans p9
                    replace p10 := ((bdrewN (brf w2) nq).cell (p := ⟨wr.heap.size, 10, none⟩) hbxl).trans p10
                    clear m0 m1 m2 y0 y1 y2
                    obtain ⟨m0, m1, m2, y0, y1, y2⟩ := T3.out.t.cells
                    clear T2 hE hbxl hB2
                    generalize w2.drewN nq = w3 at *
                    obtain ⟨_, _, xs0, fr0, hg0⟩ := own_ge T3.out.t.O rfl
                    have hO4 := OwnS.set (R' := RPb w.heap.size b2) T3.out.t.O (k := o1.length - 1) (j := 1) (x := q) (x' := { q with n := q.n + 1 }) hjq.out (by decide) (.int .i64 (q.n + 1)) rfl
                      (fun cs y _ r => r.keep (Nat.le_refl _) fun k _ hT => heap_setCell_other _ _ k _ (hT.ne hg0 (by decide)))
                      (fun cs _ r => by
                        obtain ⟨sv, rfl, hits⟩ := r.keep (w' := w3.setCell ⟨g, (o1.length - 1) * 7 + 1, none⟩ (.int .i64 (q.n + 1))) (Nat.le_refl _) fun k _ hT => heap_setCell_other _ _ k _ (hT.ne hg0 (by decide))
                        exact ⟨sv, rfl, hits⟩)
                    rw [E2.out] at hO4
                    have T4 := Lib.hid (T3.out.row rfl hO4)
                    have hB4 := Lib.hid (hB3.out.setCell (p := ⟨g, (o1.length - 1) * 7 + 1, none⟩) (own_ge T3.out.t.O rfl).1 (.int .i64 (q.n + 1)))
                    clear hO4 hg0 xs0 fr0
                    go_wp2
                    go_roundw
                    case rel => exact ⟨k + 1, o2, [], 0, _, _, b2, by omega, by go_num, T4.out, hs2, HL2.out, hB4.out⟩
                    case measure => simp [intOf]; omega
    · obtain rfl : k = l.length := by omega
      have hfin := Lib.hid (show tidyA l = flush out ps c by rw [hst.out, List.drop_length]; rfl)
      go_wp2_with fail
      refine (flush_any T.out ⟨by omega, by omega, by omega⟩ (by omega)).mono ?_
      rintro e w2 ⟨rfl, ⟨ov2, b2, hT2⟩, hb2, _⟩
      obtain ⟨oa2, oc2, rfl⟩ := len_nil hT2.t.O
      obtain ⟨m0, m1, m2, y0, y1, y2⟩ := hT2.t.cells
      have hO := Lib.hid (RdS.to (F' := (w.heap.size ≤ ·)) hT2.t.O.rd (by decide) (fun k hk _ => ⟨hk, rfl⟩) (fun cs x _ r => (RPt.to r fun k hk _ => ⟨hk.1, rfl⟩ : RPt (w.heap.size ≤ ·) w2 cs x)))
      clear hT2
      go_wp2
      go_ret
      exact ⟨_, rfl, by rw [hfin.out]; exact hO.out, hb.trans hb2⟩
end Go.Proofs.Ytgodceplajkcdaa
