/- Package op: add: a part behind others; what is alike becomes one. -/
import Derived.Test.YtckdlhgeelhnmaaGreatOpCopy
import Derived.Test.YtckdlhgeelhnmaaGreatOpA
import Derived.Test.YtckdlhgeelhnmaaGreatTac
import Derived.Deep.RegionHeld3
import Derived.Deep.DeepFit
import Derived.IntWalk
namespace Go.Proofs.YtckdlhgeelhnmaaGreat
open Go.RowKit Go.Mh

/-- What the call finds stays, but for the row that it adds to. -/
def Kpt (v : Value) (w w' : World) : Prop := ∀ k, k < w.heap.size → some k ≠ v.ownBlock → w'.heap[k]? = w.heap[k]?
theorem Kpt.of {v : Value} {w w5 w' : World} (hb : Below w.heap.size w w5) (hk : ∀ k, k < w5.heap.size → some k ≠ v.ownBlock → w'.heap[k]? = w5.heap[k]?) : Kpt v w w' :=
  fun k hl hn => (hk k (by have := hb.size; omega) hn).trans (hb.block k hl)

theorem addP_nil {p : Pt} (h : ¬ ((p.k ≠ 2 ∧ p.n = 0) ∨ (p.k = 2 ∧ p.its = []))) : addP [] p = [p] := by simp only [addP, if_neg h]; rfl
theorem addP_new {O : List Pt} {p q : Pt} (h : ¬ ((p.k ≠ 2 ∧ p.n = 0) ∨ (p.k = 2 ∧ p.its = []))) (hq : O.getLast? = some q) (ha : alikeP q p = false) : addP O p = O ++ [p] := by simp only [addP, if_neg h, hq, ha]; simp
theorem addP_old {O : List Pt} {p q : Pt} {j : Nat} (h : ¬ ((p.k ≠ 2 ∧ p.n = 0) ∨ (p.k = 2 ∧ p.its = []))) (hj : O.length = j + 1) (hq : O[j]? = some q) (ha : alikeP q p = true) : addP O p = O.set j { q with n := q.n + p.n, its := q.its ++ p.its } := by
  have hl : O.getLast? = some q := by rw [List.getLast?_eq_getElem?, hj]; exact hq
  simp only [addP, if_neg h, hl, ha, if_true]
  have e := dropLast_snoc hl
  have hd : O.dropLast.length = j := by simp [hj]
  conv => rhs; rw [e, List.set_append_right _ _ (by omega), hd, Nat.sub_self]
  rfl

theorem keep15 {a0 a1 a2 a3 a4 a5 a6 a7 a8 a9 a10 a11 a12 a13 : Addr} {v0 v1 v2 v3 v4 v5 v6 v7 v8 v9 v10 v11 v12 v13 : Value} {w3 wc w' : World} (h : wc.cell? a0 = some v0 ∧ wc.cell? a1 = some v1 ∧ wc.cell? a2 = some v2 ∧ wc.cell? a3 = some v3 ∧ wc.cell? a4 = some v4 ∧ wc.cell? a5 = some v5 ∧ wc.cell? a6 = some v6 ∧ wc.cell? a7 = some v7 ∧ wc.cell? a8 = some v8 ∧ wc.cell? a9 = some v9 ∧ wc.cell? a10 = some v10 ∧ wc.cell? a11 = some v11 ∧ wc.cell? a12 = some v12 ∧ wc.cell? a13 = some v13 ∧ Below w3.heap.size w3 wc) (hb : Below wc.heap.size wc w') : w'.cell? a0 = some v0 ∧ w'.cell? a1 = some v1 ∧ w'.cell? a2 = some v2 ∧ w'.cell? a3 = some v3 ∧ w'.cell? a4 = some v4 ∧ w'.cell? a5 = some v5 ∧ w'.cell? a6 = some v6 ∧ w'.cell? a7 = some v7 ∧ w'.cell? a8 = some v8 ∧ w'.cell? a9 = some v9 ∧ w'.cell? a10 = some v10 ∧ w'.cell? a11 = some v11 ∧ w'.cell? a12 = some v12 ∧ w'.cell? a13 = some v13 ∧ Below w3.heap.size w3 w' :=
  let ⟨h0, h1, h2, h3, h4, h5, h6, h7, h8, h9, h10, h11, h12, h13, hB⟩ := h
  ⟨(hb.cell (lt_of_cell h0)).trans h0, (hb.cell (lt_of_cell h1)).trans h1, (hb.cell (lt_of_cell h2)).trans h2, (hb.cell (lt_of_cell h3)).trans h3, (hb.cell (lt_of_cell h4)).trans h4, (hb.cell (lt_of_cell h5)).trans h5, (hb.cell (lt_of_cell h6)).trans h6, (hb.cell (lt_of_cell h7)).trans h7, (hb.cell (lt_of_cell h8)).trans h8, (hb.cell (lt_of_cell h9)).trans h9, (hb.cell (lt_of_cell h10)).trans h10, (hb.cell (lt_of_cell h11)).trans h11, (hb.cell (lt_of_cell h12)).trans h12, (hb.cell (lt_of_cell h13)).trans h13, btr hB hb⟩

theorem bel15 {a0 a1 a2 a3 a4 a5 a6 a7 a8 a9 a10 a11 a12 a13 : Addr} {v0 v1 v2 v3 v4 v5 v6 v7 v8 v9 v10 v11 v12 v13 : Value} {w3 wc : World} (h : wc.cell? a0 = some v0 ∧ wc.cell? a1 = some v1 ∧ wc.cell? a2 = some v2 ∧ wc.cell? a3 = some v3 ∧ wc.cell? a4 = some v4 ∧ wc.cell? a5 = some v5 ∧ wc.cell? a6 = some v6 ∧ wc.cell? a7 = some v7 ∧ wc.cell? a8 = some v8 ∧ wc.cell? a9 = some v9 ∧ wc.cell? a10 = some v10 ∧ wc.cell? a11 = some v11 ∧ wc.cell? a12 = some v12 ∧ wc.cell? a13 = some v13 ∧ Below w3.heap.size w3 wc) : Below w3.heap.size w3 wc := h.2.2.2.2.2.2.2.2.2.2.2.2.2.2

set_option maxRecDepth 100000 in
set_option maxHeartbeats 1000000 in
theorem add_skip (v : Value) (O : List Pt) (p : Pt) (sv : Value) (w : World) (hv : ∃ a c, v = .slice a O.length c) (hsv : ∃ a c, sv = .slice a p.its.length c) (h : (p.k ≠ 2 ∧ p.n = 0) ∨ (p.k = 2 ∧ p.its = [])) :
    Calls Tryz.prog 142 #[v, pv p sv] w fun e w' => e = .returned v ∧ Below w.heap.size w w' := by
  obtain ⟨a, c, rfl⟩ := hv
  obtain ⟨xk, xn, xits, xset, xclr, xto, xl⟩ := p
  obtain ⟨sa, sc, rfl⟩ := hsv
  rcases h with ⟨h1, h2⟩ | ⟨h1, h2⟩
  · simp only at h1 h2
    subst h2
    have e1 : (xk != 2) = true := by simpa using h1
    clear h1
    go_enter Tryz.func142, Tryz.ntmps142
    go_wp2
    go_ret
    exact ⟨rfl, bal (brf _) _⟩
  · simp only at h1 h2
    subst h1 h2
    go_enter Tryz.func142, Tryz.ntmps142
    go_wp2
    go_ret
    exact ⟨rfl, bal (brf _) _⟩

set_option maxRecDepth 100000 in
set_option maxHeartbeats 2000000 in
theorem add_first (B : Nat) (v : Value) (p : Pt) (sv : Value) (w : World) (ho : OwnS B 112 7 (RPtI 50) w v []) (F : Nat → Prop) (hits : RItems F w sv p.its) (hB : B ≤ w.heap.size) (hl : p.its.length ≤ 100000)
    (h : ¬ ((p.k ≠ 2 ∧ p.n = 0) ∨ (p.k = 2 ∧ p.its = []))) :
    Calls Tryz.prog 142 #[v, pv p sv] w fun e w' => ∃ u, e = .returned u ∧ OwnS B 112 7 (RPtI 50) w' u (addP [] p) ∧ Below B w w' ∧ Kpt v w w' := by
  rw [addP_nil h]
  obtain ⟨a, c, rfl, _⟩ := RdS.len ho.rd
  obtain ⟨sa, sc, rfl, hsn⟩ := RdS.len hits
  have hI := Lib.hid hits; clear hits
  have ho' := Lib.hid ho; clear ho
  obtain ⟨xk, xn, xits, xset, xclr, xto, xl⟩ := p
  simp only at hI hsn hl h
  have e0 : (xk != 2) = (!(xk == 2)) := rfl
  have hg : (∃ e : Bool, (xk == 2) = e ∧ (e = false → (xn == 0) = false) ∧ (e = true → ((xits.length : Int) == 0) = false)) := by
    refine ⟨_, rfl, fun e => ?_, fun e => ?_⟩
    · simp at e; simp; intro e2; exact h (Or.inl ⟨e, e2⟩)
    · simp at e; simp; intro e2; exact h (Or.inr ⟨e, e2⟩)
  obtain ⟨e, he, h1, h2⟩ := hg
  clear h
  rw [he] at e0
  have hE : (e = false ∧ (xn == 0) = false) ∨ (e = true ∧ ((xits.length : Int) == 0) = false) := by
    cases e
    · exact Or.inl ⟨rfl, h1 rfl⟩
    · exact Or.inr ⟨rfl, h2 rfl⟩
  clear h1 h2
  rcases hE with ⟨rfl, hz⟩ | ⟨rfl, hz⟩
  all_goals
    go_enter Tryz.func142, Tryz.ntmps142
    go_wp2_with fail
    refine (cloneItems_any F _ xits _ (hI.out.to (Kp.below (bal (brf _) _))) hl).mono ?_
    rintro e w2 ⟨v2, rfl, ho2, hb2⟩
    obtain ⟨a2, c2, rfl, _⟩ := RdS.len ho2.rd
    have HB : Below w.heap.size w w2 := (bal (brf w) _).trans (hb2.mono (by simp))
    have hbx := (hb2.block w.heap.size (by simp)).trans (heap_new _ _)
    have hcl : Hid (RItems (Ty 50 w2) w2 (.slice a2 xits.length c2) xits) := Lib.hid ho2.rdT
    have hbx' := Lib.hid hbx
    obtain ⟨a0, a1, b2, a3, a4, a5, a6⟩ := P7.of hbx
    have f2 : w2.frozen? ⟨w.heap.size, 2, none⟩ = false := Lib.frozen_of_heap hbx _
    have hws : w.heap.size < w2.heap.size := lt_of_heap hbx
    clear ho2 hb2 hbx
    go_wp2_with fail
    refine name_world ?_
    intro w3 hW3
    have HB3 : Below w.heap.size w w3 := by rw [← hW3]; exact HB.setCell (Nat.le_refl _) _
    have hb3 : w3.heap[w.heap.size]? = some (.cells #[.int .i64 xk, .int .i64 xn, .slice a2 xits.length c2, .int .i64 xset, .int .i64 xclr, .bool xto, str xl] 112 (0, 0)) := by
      rw [← hW3, heap_setCell_same _ _ _ _ _ _ hbx'.out]; rfl
    have hcl3 : Hid (RItems (Ty 50 w3) w3 (.slice a2 xits.length c2) xits) := Lib.hid (RItemsT_keep hcl.out fun k hk => by rw [← hW3]; exact heap_setCell_other _ _ _ _ (hk.ne hbx'.out (by decide)))
    have hws3 : w.heap.size < w3.heap.size := lt_of_heap hb3
    clear hW3 hcl hbx' a0 a1 b2 a3 a4 a5 a6 f2 HB
    obtain ⟨a0, a1, b2, a3, a4, a5, a6⟩ := P7.of hb3
    clear hb3
    go_quiet (fail)
    go_wp2_with (at_builtin; refine wpList_appP rfl (.tmp 66) (.tmp 68) 39 rfl B 112 80 50 (by decide) _ elPart _ [] rfl (ho'.out.below (bdrewN HB3 _) fun cs x _ r => r.below (bdrewN HB3 _)) ⟨xk, xn, xits, xset, xclr, xto, xl⟩ (.slice a2 xits.length c2) _ rfl (by simp) (RItemsT_below hcl3.out (bdrewN (brf _) _)) (by simp [maxLen]) (by simp) (by simp; omega) ?_; intro v4 w4 ho4 hb4 hz4 hk4)
    go_ret
    exact ⟨_, rfl, ho4, ((bdrewN HB3 _).mono hB).trans hb4, Kpt.of (bdrewN HB3 _) hk4⟩
set_option maxRecDepth 100000 in
set_option maxHeartbeats 4000000 in
theorem add_more (B : Nat) (v : Value) (O : List Pt) (p : Pt) (sv : Value) (w : World) (ho : OwnS B 112 7 (RPtI 50) w v O) (F : Nat → Prop) (hits : RItems F w sv p.its) (hB : B ≤ w.heap.size) (hl : p.its.length ≤ 100000)
    (h : ¬ ((p.k ≠ 2 ∧ p.n = 0) ∨ (p.k = 2 ∧ p.its = []))) (j : Nat) (hj : O.length = j + 1) (hj5 : j ≤ 100000) (q : Pt) (hq : O[j]? = some q) (hal : alikeP q p = false) :
    Calls Tryz.prog 142 #[v, pv p sv] w fun e w' => ∃ u, e = .returned u ∧ OwnS B 112 7 (RPtI 50) w' u (addP O p) ∧ Below B w w' ∧ Kpt v w w' := by
  have hres := Lib.hid (addP_new h (by rw [List.getLast?_eq_getElem?, hj]; exact hq) hal)
  have hal' := Lib.hid hal; clear hal
  obtain ⟨g, c, cur, rfl, hgB, hg0⟩ := ho.shape (by intro e; rw [e] at hj; simp at hj)
  obtain ⟨sa, sc, rfl, hsn⟩ := RdS.len hits
  have hgw : g < w.heap.size := lt_of_heap hg0
  have hI := Lib.hid hits; clear hits
  have ho' := Lib.hid ho; clear ho
  have hq' := Lib.hid hq; clear hq
  have hjc : j + 1 ≤ c := by have := ho'.out.rd.capLe; omega
  have hj' := Lib.hid hj
  have hj0 : (0 : Int) ≤ (j : Int) := by omega
  have hj1 : (j : Int) < (j : Int) + 1 := by omega
  have hOl : O.length ≤ 100001 := by omega
  rw [hj]
  clear hj hg0
  obtain ⟨xk, xn, xits, xset, xclr, xto, xl⟩ := p
  obtain ⟨yk, yn, yits, yset, yclr, yto, yl⟩ := q
  simp only at hI hsn hl h
  have e0 : (xk != 2) = (!(xk == 2)) := rfl
  have hg : (∃ e : Bool, (xk == 2) = e ∧ (e = false → (xn == 0) = false) ∧ (e = true → ((xits.length : Int) == 0) = false)) := by
    refine ⟨_, rfl, fun e => ?_, fun e => ?_⟩
    · simp at e; simp; intro e2; exact h (Or.inl ⟨e, e2⟩)
    · simp at e; simp; intro e2; exact h (Or.inr ⟨e, e2⟩)
  obtain ⟨e, he, h1, h2⟩ := hg
  clear h
  rw [he] at e0
  have hE : (e = false ∧ (xn == 0) = false) ∨ (e = true ∧ ((xits.length : Int) == 0) = false) := by
    cases e
    · exact Or.inl ⟨rfl, h1 rfl⟩
    · exact Or.inr ⟨rfl, h2 rfl⟩
  clear h1 h2
  rcases hE with ⟨rfl, hz⟩ | ⟨rfl, hz⟩
  all_goals
    go_enter Tryz.func142, Tryz.ntmps142
    go_wp2_with fail
    refine (cloneItems_any F _ xits _ (hI.out.to (Kp.below (bal (brf _) _))) hl).mono ?_
    rintro e w2 ⟨v2, rfl, ho2, hb2⟩
    obtain ⟨a2, c2, rfl, _⟩ := RdS.len ho2.rd
    have HB : Below w.heap.size w w2 := (bal (brf w) _).trans (hb2.mono (by simp))
    have hbx := (hb2.block w.heap.size (by simp)).trans (heap_new _ _)
    have hcl : Hid (RItems (Ty 50 w2) w2 (.slice a2 xits.length c2) xits) := Lib.hid ho2.rdT
    have hbx' := Lib.hid hbx
    obtain ⟨a0, a1, b2, a3, a4, a5, a6⟩ := P7.of hbx
    have f2 : w2.frozen? ⟨w.heap.size, 2, none⟩ = false := Lib.frozen_of_heap hbx _
    have hws : w.heap.size < w2.heap.size := lt_of_heap hbx
    clear ho2 hb2 hbx
    go_wp2_with fail
    refine name_world ?_
    intro w3 hW3
    have HB3 : Below w.heap.size w w3 := by rw [← hW3]; exact HB.setCell (Nat.le_refl _) _
    have hb3 : w3.heap[w.heap.size]? = some (.cells #[.int .i64 xk, .int .i64 xn, .slice a2 xits.length c2, .int .i64 xset, .int .i64 xclr, .bool xto, str xl] 112 (0, 0)) := by
      rw [← hW3, heap_setCell_same _ _ _ _ _ _ hbx'.out]; rfl
    have hcl3 : Hid (RItems (Ty 50 w3) w3 (.slice a2 xits.length c2) xits) := Lib.hid (RItemsT_keep hcl.out fun k hk => by rw [← hW3]; exact heap_setCell_other _ _ _ _ (hk.ne hbx'.out (by decide)))
    have hws3 : w.heap.size < w3.heap.size := lt_of_heap hb3
    clear hW3 hcl hbx' a0 a1 b2 a3 a4 a5 a6 f2 HB
    obtain ⟨a0, a1, b2, a3, a4, a5, a6⟩ := P7.of hb3
    clear hb3
    have ho3 := Lib.hid (ho'.out.below HB3 fun cs x _ r => r.below HB3)
    obtain ⟨b, o, qv, e1, hqits, d0, d1, d2, d3, d4, d5, d6⟩ := ROp.at ho3.out.readT (Below.refl _ _) hq'.out
    cases e1
    simp only [Nat.zero_add] at d0 d1 d2 d3 d4 d5 d6
    obtain ⟨ya, yc, rfl, hyn⟩ := RdS.len hqits
    clear hqits
    have Q : w3.cell? ⟨g, j * 7, none⟩ = some (.int .i64 yk) ∧ w3.cell? ⟨g, j * 7 + 1, none⟩ = some (.int .i64 yn) ∧ w3.cell? ⟨g, j * 7 + 2, none⟩ = some (.slice ya yits.length yc) ∧ w3.cell? ⟨g, j * 7 + 3, none⟩ = some (.int .i64 yset) ∧ w3.cell? ⟨g, j * 7 + 4, none⟩ = some (.int .i64 yclr) ∧ w3.cell? ⟨g, j * 7 + 5, none⟩ = some (.bool yto) ∧ w3.cell? ⟨g, j * 7 + 6, none⟩ = some (str yl) ∧ w3.cell? ⟨w.heap.size, 0, none⟩ = some (.int .i64 xk) ∧ w3.cell? ⟨w.heap.size, 1, none⟩ = some (.int .i64 xn) ∧ w3.cell? ⟨w.heap.size, 2, none⟩ = some (.slice a2 xits.length c2) ∧ w3.cell? ⟨w.heap.size, 3, none⟩ = some (.int .i64 xset) ∧ w3.cell? ⟨w.heap.size, 4, none⟩ = some (.int .i64 xclr) ∧ w3.cell? ⟨w.heap.size, 5, none⟩ = some (.bool xto) ∧ w3.cell? ⟨w.heap.size, 6, none⟩ = some (str xl) ∧ Below w3.heap.size w3 w3 := ⟨d0, d1, d2, d3, d4, d5, d6, a0, a1, b2, a3, a4, a5, a6, brf w3⟩
    clear d0 d1 d2 d3 d4 d5 d6 a0 a1 b2 a3 a4 a5 a6
    go_region_held3 (fun w' => w'.cell? ⟨g, j * 7, none⟩ = some (.int .i64 yk) ∧ w'.cell? ⟨g, j * 7 + 1, none⟩ = some (.int .i64 yn) ∧ w'.cell? ⟨g, j * 7 + 2, none⟩ = some (.slice ya yits.length yc) ∧ w'.cell? ⟨g, j * 7 + 3, none⟩ = some (.int .i64 yset) ∧ w'.cell? ⟨g, j * 7 + 4, none⟩ = some (.int .i64 yclr) ∧ w'.cell? ⟨g, j * 7 + 5, none⟩ = some (.bool yto) ∧ w'.cell? ⟨g, j * 7 + 6, none⟩ = some (str yl) ∧ w'.cell? ⟨w.heap.size, 0, none⟩ = some (.int .i64 xk) ∧ w'.cell? ⟨w.heap.size, 1, none⟩ = some (.int .i64 xn) ∧ w'.cell? ⟨w.heap.size, 2, none⟩ = some (.slice a2 xits.length c2) ∧ w'.cell? ⟨w.heap.size, 3, none⟩ = some (.int .i64 xset) ∧ w'.cell? ⟨w.heap.size, 4, none⟩ = some (.int .i64 xclr) ∧ w'.cell? ⟨w.heap.size, 5, none⟩ = some (.bool xto) ∧ w'.cell? ⟨w.heap.size, 6, none⟩ = some (str xl) ∧ Below w3.heap.size w3 w') (first | exact keep15 (by assumption) (by assumption) | exact keep15 Q (Below.refl _ _).drew)
      (first | (go_at_call 91; refine (alike_any ⟨yk, yn, yits, yset, yclr, yto, yl⟩ ⟨xk, xn, xits, xset, xclr, xto, xl⟩ _ _ _).mono ?_; rintro e w4 ⟨rfl, hb4⟩; rw [hal'.out]))
    go_wp2_with (at_builtin; refine wpList_appP rfl (.tmp 66) (.tmp 68) 39 rfl B 112 80 50 (by decide) _ elPart (.slice (some ⟨g, 0, none⟩) (j + 1) c) O rfl (by rw [← hj'.out]; exact ho3.out.below (bel15 (by assumption)) fun cs x _ r => r.below (bel15 (by assumption))) ⟨xk, xn, xits, xset, xclr, xto, xl⟩ (.slice a2 xits.length c2) _ rfl (by simp) (RItemsT_below hcl3.out (bel15 (by assumption))) (by unfold maxLen; omega) (by omega) (by have := (bel15 (by assumption) : Below w3.heap.size w3 _).size; omega) ?_; intro v4 w4 ho4 hb4 hz4 hk4)
    go_ret
    exact ⟨_, rfl, by rw [hres.out]; exact ho4, ((HB3.trans ((bel15 (by assumption)).mono HB3.size)).mono hB).trans hb4, Kpt.of (HB3.trans ((bel15 (by assumption)).mono HB3.size)) hk4⟩
end Go.Proofs.YtckdlhgeelhnmaaGreat
/- Package op: add: a part behind one that is alike. -/
namespace Go.Proofs.YtckdlhgeelhnmaaGreat
open Go.RowKit Go.Mh

theorem own_n {B e T : Nat} (hT : T ≠ e) {w : World} {g n cap : Nat} {O : List Pt} (h : OwnS B e 7 (RPtI T) w (.slice (some ⟨g, 0, none⟩) n cap) O) (hg : ∃ cur, w.heap[g]? = some (.cells cur e (0, 0))) {j : Nat} {q : Pt} (hq : O[j]? = some q) (m : Int) :
    OwnS B e 7 (RPtI T) (w.setCell ⟨g, j * 7 + 1, none⟩ (.int .i64 m)) (.slice (some ⟨g, 0, none⟩) n cap) (O.set j { q with n := m }) := by
  obtain ⟨cur, hg⟩ := hg
  have hk : ∀ k, Ty T w k → (w.setCell ⟨g, j * 7 + 1, none⟩ (.int .i64 m)).heap[k]? = w.heap[k]? := fun k hk => heap_setCell_other _ _ _ _ (hk.ne hg hT)
  refine OwnS.set (j := 1) h hq (by decide) (.int .i64 m) rfl (fun cs y _ r => r.keep hk) (fun cs hc r => ?_)
  obtain ⟨sv, rfl, hs⟩ := r.keep hk
  exact ⟨sv, rfl, hs⟩
theorem own_its {B e T : Nat} (hT : T ≠ e) {w : World} {g n cap : Nat} {O : List Pt} (h : OwnS B e 7 (RPtI T) w (.slice (some ⟨g, 0, none⟩) n cap) O) (hg : ∃ cur, w.heap[g]? = some (.cells cur e (0, 0))) {j : Nat} {q : Pt} (hq : O[j]? = some q) {u : Value} {L : List It} (hI : RItems (Ty T w) w u L) (hu : u.oneCell' = true) :
    OwnS B e 7 (RPtI T) (w.setCell ⟨g, j * 7 + 2, none⟩ u) (.slice (some ⟨g, 0, none⟩) n cap) (O.set j { q with its := L }) := by
  obtain ⟨cur, hg⟩ := hg
  have hk : ∀ k, Ty T w k → (w.setCell ⟨g, j * 7 + 2, none⟩ u).heap[k]? = w.heap[k]? := fun k hk => heap_setCell_other _ _ _ _ (hk.ne hg hT)
  refine OwnS.set (j := 2) h hq (by decide) u hu (fun cs y _ r => r.keep hk) (fun cs hc r => ?_)
  obtain ⟨sv, rfl, hs⟩ := r.keep hk
  exact ⟨u, rfl, RItemsT_keep hI hk⟩
theorem own_drewN {B e T : Nat} {w : World} {v : Value} {O : List Pt} (h : OwnS B e 7 (RPtI T) w v O) (n : Nat) : OwnS B e 7 (RPtI T) (w.drewN n) v O := h.below (bdrewN (Below.refl _ _) n) fun _ _ _ r => r.below (bdrewN (Below.refl _ _) n)
theorem ritems_nil {F G : Nat → Prop} {w w' : World} {v : Value} (h : RItems F w v []) : RItems G w' v [] := by
  obtain ⟨a, c, e, h1, h2, h3, _⟩ := h
  exact ⟨a, c, e, h1, h2, h3, fun i x hx => by simp at hx⟩
theorem own_bump {B e T : Nat} (hT : T ≠ e) {w : World} {g n cap : Nat} {O : List Pt} (h : OwnS B e 7 (RPtI T) w (.slice (some ⟨g, 0, none⟩) n cap) O) (hg : ∃ cur, w.heap[g]? = some (.cells cur e (0, 0))) {j : Nat} {q : Pt} (hq : O[j]? = some q) (hj : j < O.length) (m : Int) {u : Value} (hI : ∀ w' : World, RItems (Ty T w') w' u []) (hu : u.oneCell' = true) :
    OwnS B e 7 (RPtI T) ((w.setCell ⟨g, j * 7 + 1, none⟩ (.int .i64 m)).setCell ⟨g, j * 7 + 2, none⟩ u).drew.drew (.slice (some ⟨g, 0, none⟩) n cap) (O.set j { q with n := m, its := [] }) := by
  have h1 := own_n hT h hg hq m
  obtain ⟨cur, hg⟩ := hg
  have h2 := own_its (q := { q with n := m }) hT h1 ⟨_, heap_setCell_same _ _ _ _ _ _ hg⟩ (List.getElem?_set_self hj) (hI _) hu
  rw [List.set_set] at h2
  exact own_drewN h2 2

set_option maxRecDepth 100000 in
set_option maxHeartbeats 4000000 in
theorem add_old (B : Nat) (v : Value) (O : List Pt) (p : Pt) (sv : Value) (w : World) (ho : OwnS B 112 7 (RPtI 50) w v O) (F : Nat → Prop) (hits : RItems F w sv p.its) (hB : B ≤ w.heap.size) (hl : p.its.length ≤ 100000)
    (hk : p.k ≠ 2) (hn : p.n ≠ 0) (hn0 : 0 ≤ p.n) (hn1 : p.n ≤ 1000000) (hpi : p.its = []) (j : Nat) (hj : O.length = j + 1) (hj5 : j ≤ 100000) (q : Pt) (hq : O[j]? = some q) (hal : alikeP q p = true) (hqi : q.its = []) (hm0 : 0 ≤ q.n) (hm1 : q.n ≤ 1000000) :
    Calls Tryz.prog 142 #[v, pv p sv] w fun e w' => ∃ u, e = .returned u ∧ OwnS B 112 7 (RPtI 50) w' u (addP O p) ∧ Below B w w' ∧ Kpt v w w' := by
  have hres := Lib.hid (addP_old (by simp [hk, hn]) hj hq hal)
  have hal' := Lib.hid hal; clear hal
  obtain ⟨g, c, cur, rfl, hgB, hg0⟩ := ho.shape (by intro e; rw [e] at hj; simp at hj)
  obtain ⟨sa, sc, rfl, hsn⟩ := RdS.len hits
  have hgw : g < w.heap.size := lt_of_heap hg0
  have hI := Lib.hid hits; clear hits
  have ho' := Lib.hid ho; clear ho
  have hq' := Lib.hid hq; clear hq
  have hjc : j + 1 ≤ c := by have := ho'.out.rd.capLe; omega
  have hj' := Lib.hid hj
  have hj0 : (0 : Int) ≤ (j : Int) := by omega
  have hj1 : (j : Int) < (j : Int) + 1 := by omega
  have hOl : O.length ≤ 100001 := by omega
  rw [hj]
  clear hj hg0
  obtain ⟨xk, xn, xits, xset, xclr, xto, xl⟩ := p
  obtain ⟨yk, yn, yits, yset, yclr, yto, yl⟩ := q
  simp only at hI hsn hl hk hn hn0 hn1 hm0 hm1 hpi hqi
  subst hpi hqi
  have e0 : (xk != 2) = true := by simpa using hk
  have e1 : (xn == 0) = false := by simpa using hn
  have e2 : (xk == 2) = false := by simpa using hk
  clear hk hn
  · skip
    go_enter Tryz.func142, Tryz.ntmps142
    go_wp2_with fail
    refine (cloneItems_any F _ [] _ (hI.out.to (Kp.below (bal (brf _) _))) hl).mono ?_
    rintro e w2 ⟨v2, rfl, ho2, hb2⟩
    obtain ⟨a2, c2, rfl, _⟩ := RdS.len ho2.rd
    have HB : Below w.heap.size w w2 := (bal (brf w) _).trans (hb2.mono (by simp))
    have hbx := (hb2.block w.heap.size (by simp)).trans (heap_new _ _)
    have hcl : Hid (RItems (Ty 50 w2) w2 (.slice a2 0 c2) []) := Lib.hid ho2.rdT
    have hbx' := Lib.hid hbx
    obtain ⟨a0, a1, b2, a3, a4, a5, a6⟩ := P7.of hbx
    have f2 : w2.frozen? ⟨w.heap.size, 2, none⟩ = false := Lib.frozen_of_heap hbx _
    have hws : w.heap.size < w2.heap.size := lt_of_heap hbx
    clear ho2 hb2 hbx
    go_wp2_with fail
    refine name_world ?_
    intro w3 hW3
    have HB3 : Below w.heap.size w w3 := by rw [← hW3]; exact HB.setCell (Nat.le_refl _) _
    have hb3 : w3.heap[w.heap.size]? = some (.cells #[.int .i64 xk, .int .i64 xn, .slice a2 0 c2, .int .i64 xset, .int .i64 xclr, .bool xto, str xl] 112 (0, 0)) := by
      rw [← hW3, heap_setCell_same _ _ _ _ _ _ hbx'.out]; rfl
    have hcl3 : Hid (RItems (Ty 50 w3) w3 (.slice a2 0 c2) []) := Lib.hid (RItemsT_keep hcl.out fun k hk => by rw [← hW3]; exact heap_setCell_other _ _ _ _ (hk.ne hbx'.out (by decide)))
    have hws3 : w.heap.size < w3.heap.size := lt_of_heap hb3
    clear hW3 hcl hbx' a0 a1 b2 a3 a4 a5 a6 f2 HB
    obtain ⟨a0, a1, b2, a3, a4, a5, a6⟩ := P7.of hb3
    clear hb3
    have ho3 := Lib.hid (ho'.out.below HB3 fun cs x _ r => r.below HB3)
    obtain ⟨b, o, qv, e9, hqits, d0, d1, d2, d3, d4, d5, d6⟩ := ROp.at ho3.out.readT (Below.refl _ _) hq'.out
    cases e9
    simp only [Nat.zero_add] at d0 d1 d2 d3 d4 d5 d6
    obtain ⟨ya, yc, rfl, hyn⟩ := RdS.len hqits
    have hyi := Lib.hid hqits
    clear hqits
    have Q : w3.cell? ⟨g, j * 7, none⟩ = some (.int .i64 yk) ∧ w3.cell? ⟨g, j * 7 + 1, none⟩ = some (.int .i64 yn) ∧ w3.cell? ⟨g, j * 7 + 2, none⟩ = some (.slice ya 0 yc) ∧ w3.cell? ⟨g, j * 7 + 3, none⟩ = some (.int .i64 yset) ∧ w3.cell? ⟨g, j * 7 + 4, none⟩ = some (.int .i64 yclr) ∧ w3.cell? ⟨g, j * 7 + 5, none⟩ = some (.bool yto) ∧ w3.cell? ⟨g, j * 7 + 6, none⟩ = some (str yl) ∧ w3.cell? ⟨w.heap.size, 0, none⟩ = some (.int .i64 xk) ∧ w3.cell? ⟨w.heap.size, 1, none⟩ = some (.int .i64 xn) ∧ w3.cell? ⟨w.heap.size, 2, none⟩ = some (.slice a2 0 c2) ∧ w3.cell? ⟨w.heap.size, 3, none⟩ = some (.int .i64 xset) ∧ w3.cell? ⟨w.heap.size, 4, none⟩ = some (.int .i64 xclr) ∧ w3.cell? ⟨w.heap.size, 5, none⟩ = some (.bool xto) ∧ w3.cell? ⟨w.heap.size, 6, none⟩ = some (str xl) ∧ Below w3.heap.size w3 w3 := ⟨d0, d1, d2, d3, d4, d5, d6, a0, a1, b2, a3, a4, a5, a6, brf w3⟩
    clear d0 d1 d2 d3 d4 d5 d6 a0 a1 b2 a3 a4 a5 a6
    go_region_held3 (fun w' => w'.cell? ⟨g, j * 7, none⟩ = some (.int .i64 yk) ∧ w'.cell? ⟨g, j * 7 + 1, none⟩ = some (.int .i64 yn) ∧ w'.cell? ⟨g, j * 7 + 2, none⟩ = some (.slice ya 0 yc) ∧ w'.cell? ⟨g, j * 7 + 3, none⟩ = some (.int .i64 yset) ∧ w'.cell? ⟨g, j * 7 + 4, none⟩ = some (.int .i64 yclr) ∧ w'.cell? ⟨g, j * 7 + 5, none⟩ = some (.bool yto) ∧ w'.cell? ⟨g, j * 7 + 6, none⟩ = some (str yl) ∧ w'.cell? ⟨w.heap.size, 0, none⟩ = some (.int .i64 xk) ∧ w'.cell? ⟨w.heap.size, 1, none⟩ = some (.int .i64 xn) ∧ w'.cell? ⟨w.heap.size, 2, none⟩ = some (.slice a2 0 c2) ∧ w'.cell? ⟨w.heap.size, 3, none⟩ = some (.int .i64 xset) ∧ w'.cell? ⟨w.heap.size, 4, none⟩ = some (.int .i64 xclr) ∧ w'.cell? ⟨w.heap.size, 5, none⟩ = some (.bool xto) ∧ w'.cell? ⟨w.heap.size, 6, none⟩ = some (str xl) ∧ Below w3.heap.size w3 w') (first | exact keep15 (by assumption) (by assumption) | exact keep15 Q (Below.refl _ _).drew)
      (first | (go_at_call 91; refine (alike_any ⟨yk, yn, [], yset, yclr, yto, yl⟩ ⟨xk, xn, [], xset, xclr, xto, xl⟩ _ _ _).mono ?_; rintro e w4 ⟨rfl, hb4⟩; rw [hal'.out]))
    go_wp2_with fail
    refine name_world ?_
    intro w5 hW5
    have Q5 : w5.cell? ⟨g, j * 7, none⟩ = some (.int .i64 yk) ∧ w5.cell? ⟨g, j * 7 + 1, none⟩ = some (.int .i64 yn) ∧ w5.cell? ⟨g, j * 7 + 2, none⟩ = some (.slice ya 0 yc) ∧ w5.cell? ⟨g, j * 7 + 3, none⟩ = some (.int .i64 yset) ∧ w5.cell? ⟨g, j * 7 + 4, none⟩ = some (.int .i64 yclr) ∧ w5.cell? ⟨g, j * 7 + 5, none⟩ = some (.bool yto) ∧ w5.cell? ⟨g, j * 7 + 6, none⟩ = some (str yl) ∧ w5.cell? ⟨w.heap.size, 0, none⟩ = some (.int .i64 xk) ∧ w5.cell? ⟨w.heap.size, 1, none⟩ = some (.int .i64 xn) ∧ w5.cell? ⟨w.heap.size, 2, none⟩ = some (.slice a2 0 c2) ∧ w5.cell? ⟨w.heap.size, 3, none⟩ = some (.int .i64 xset) ∧ w5.cell? ⟨w.heap.size, 4, none⟩ = some (.int .i64 xclr) ∧ w5.cell? ⟨w.heap.size, 5, none⟩ = some (.bool xto) ∧ w5.cell? ⟨w.heap.size, 6, none⟩ = some (str xl) ∧ Below w3.heap.size w3 w5 := by rw [← hW5]; assumption
    clear hW5 Q
    obtain ⟨d0, d1, d2, d3, d4, d5, d6, a0, a1, b2, a3, a4, a5, a6, hB5⟩ := Q5
    have ho5 := Lib.hid (ho3.out.below hB5 fun cs x _ r => r.below hB5)
    obtain ⟨_, _, cur5, e9, _, hg5⟩ := ho5.out.shape (by intro e; have := hj'.out; rw [e] at this; simp at this)
    cases e9
    have f1 : w5.frozen? ⟨g, j * 7 + 1, none⟩ = false := Lib.frozen_of_heap hg5 _
    have f2 : w5.frozen? ⟨g, j * 7 + 2, none⟩ = false := Lib.frozen_of_heap hg5 _
    have hg5' := Lib.hid hg5; clear hg5
    have hs1 : IntKind.i64.wrap (yn + xn) = yn + xn := IntWalk.i64_in _ (by omega)
    have hgne : ¬ w.heap.size = g := by omega
    have hgne2 : ¬ g = w.heap.size := by omega
    go_region
    go_wp2_with fail
    cases a2 <;> cases ya
    all_goals
      go_region
      go_wp2_with fail
      go_ret
      refine ⟨.slice (some ⟨g, 0, none⟩) (j + 1) c, rfl, ?_, ?_, ?_⟩
      · rw [hres.out]
        have ho6 := ho5.out
        rw [hj'.out] at ho6
        exact own_bump (by decide) ho6 ⟨_, hg5'.out⟩ hq'.out (by rw [hj'.out]; omega) (yn + xn) (by first | exact fun _ => ritems_nil hyi.out | exact fun _ => RdS.nil) rfl
      · exact bdrewN ((((HB3.trans (hB5.mono HB3.size)).mono hB).setCell hgB _).setCell hgB _) 2
      · exact fun k hk hn => by
          have hkg : k ≠ g := fun e => hn (by rw [e]; rfl)
          exact (heap_setCell_other _ _ _ _ hkg).trans ((heap_setCell_other _ _ _ _ hkg).trans ((HB3.trans (hB5.mono HB3.size)).block k hk))
end Go.Proofs.YtckdlhgeelhnmaaGreat
/- Package op: add, in every way. -/
namespace Go.Proofs.YtckdlhgeelhnmaaGreat
open Go.RowKit Go.Mh

theorem add_any (B : Nat) (v : Value) (O : List Pt) (p : Pt) (sv : Value) (w : World) (ho : OwnS B 112 7 (RPtI 50) w v O) (F : Nat → Prop) (hits : RItems F w sv p.its) (hB : B ≤ w.heap.size)
    (hl : p.its.length ≤ 100000) (hO : O.length ≤ 100000) (hn0 : 0 ≤ p.n) (hn1 : p.n ≤ 1000000) (hpi : p.k ≠ 2 → p.its = []) (hq : ∀ q, O.getLast? = some q → alikeP q p = true → p.k ≠ 2 ∧ q.its = [] ∧ 0 ≤ q.n ∧ q.n ≤ 1000000) :
    Calls Tryz.prog 142 #[v, pv p sv] w fun e w' => ∃ u, e = .returned u ∧ OwnS B 112 7 (RPtI 50) w' u (addP O p) ∧ Below B w w' ∧ Kpt v w w' := by
  by_cases h : (p.k ≠ 2 ∧ p.n = 0) ∨ (p.k = 2 ∧ p.its = [])
  · obtain ⟨a, c, e, _⟩ := RdS.len ho.rd
    obtain ⟨a', c', e', _⟩ := RdS.len hits
    refine (add_skip v O p sv w ⟨a, c, e⟩ ⟨a', c', e'⟩ h).mono ?_
    rintro e w' ⟨rfl, hb⟩
    refine ⟨v, rfl, ?_, hb.mono hB, Kpt.of hb fun _ _ _ => rfl⟩
    rw [addP_none O p h]
    exact ho.below hb fun cs x _ r => r.below hb
  · rcases Nat.eq_zero_or_pos O.length with h0 | h0
    · obtain rfl := List.eq_nil_of_length_eq_zero h0
      exact add_first B v p sv w ho F hits hB hl h
    · obtain ⟨j, hj⟩ : ∃ j, O.length = j + 1 := ⟨O.length - 1, by omega⟩
      obtain ⟨q, hqj⟩ : ∃ q, O[j]? = some q := ⟨_, List.getElem?_eq_getElem (by omega)⟩
      have hlast : O.getLast? = some q := by rw [List.getLast?_eq_getElem?, hj]; exact hqj
      cases hal : alikeP q p with
      | false => exact add_more B v O p sv w ho F hits hB hl h j hj (by omega) q hqj hal
      | true =>
        obtain ⟨h1, h2, h3, h4⟩ := hq q hlast hal
        exact add_old B v O p sv w ho F hits hB hl h1 (fun e => h (Or.inl ⟨h1, e⟩)) hn0 hn1 (hpi h1) j hj (by omega) q hqj hal h2 h3 h4
end Go.Proofs.YtckdlhgeelhnmaaGreat
