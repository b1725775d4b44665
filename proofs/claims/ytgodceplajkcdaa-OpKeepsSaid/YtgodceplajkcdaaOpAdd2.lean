/- Package op: add: a part behind one that is alike. -/
import Derived.Test.YtgodceplajkcdaaOpAdd
import Derived.IntWalk
namespace Go.Proofs.Ytgodceplajkcdaa
open Go.RowKit Go.Mh

theorem own_n {B e T : Nat} (hT : T ≠ e) {w : World} {g n cap : Nat} {O : List Pt} (h : OwnS B e 7 (RPtI T) w (.slice (some ⟨g, 0, none⟩) n cap) O) (hg : ∃ cur, w.heap[g]? = some (.cells cur e (0, 0))) {j : Nat} {q : Pt} (hq : O[j]? = some q) (m : Int) :
    OwnS B e 7 (RPtI T) (w.setCell ⟨g, j * 7 + 1, none⟩ (.int .i64 m)) (.slice (some ⟨g, 0, none⟩) n cap) (O.set j { q with n := m }) := by
  obtain ⟨cur, hg⟩ := hg
  have hk : ∀ k, Ty T w k → (w.setCell ⟨g, j * 7 + 1, none⟩ (.int .i64 m)).heap[k]? = w.heap[k]? := fun k hk => heap_setCell_other _ _ _ _ (hk.ne hg hT)
  refine OwnS.set (j := 1) h hq (by decide) (.int .i64 m) rfl (fun cs y _ r => r.keep hk) (fun cs hc r => ?_)
  obtain ⟨sv, rfl, hs⟩ := r.keep hk
  exact ⟨sv, rfl, hs⟩
theorem own_its {B e T : Nat} (hT : T ≠ e) {w : World} {g n cap : Nat} {O : List Pt} (h : OwnS B e 7 (RPtI T) w (.slice (some ⟨g, 0, none⟩) n cap) O) (hg : ∃ cur, w.heap[g]? = some (.cells cur e (0, 0))) {j : Nat} {q : Pt} (hq : O[j]? = some q) {u : Value} {L : List It} (hI : RItems (Ty T w) w u L) (hu : u.oneCell' = true) :
    OwnS B e 7 (RPtI T) (w.setCell ⟨g, j * 7 + 2, none⟩ u) (.slice (some ⟨g, 0, none⟩) n cap) (O.set j { q with its := L }) := by
  obtain ⟨cur, hg⟩ := hg
  have hk : ∀ k, Ty T w k → (w.setCell ⟨g, j * 7 + 2, none⟩ u).heap[k]? = w.heap[k]? := fun k hk => heap_setCell_other _ _ _ _ (hk.ne hg hT)
  refine OwnS.set (j := 2) h hq (by decide) u hu (fun cs y _ r => r.keep hk) (fun cs hc r => ?_)
  obtain ⟨sv, rfl, hs⟩ := r.keep hk
  exact ⟨u, rfl, RItemsT_keep hI hk⟩
theorem own_drewN {B e T : Nat} {w : World} {v : Value} {O : List Pt} (h : OwnS B e 7 (RPtI T) w v O) (n : Nat) : OwnS B e 7 (RPtI T) (w.drewN n) v O := h.below (bdrewN (Below.refl _ _) n) fun _ _ _ r => r.below (bdrewN (Below.refl _ _) n)
theorem ritems_nil {F G : Nat → Prop} {w w' : World} {v : Value} (h : RItems F w v []) : RItems G w' v [] := by
  obtain ⟨a, c, e, h1, h2, h3, _⟩ := h
  exact ⟨a, c, e, h1, h2, h3, fun i x hx => by simp at hx⟩
theorem own_bump {B e T : Nat} (hT : T ≠ e) {w : World} {g n cap : Nat} {O : List Pt} (h : OwnS B e 7 (RPtI T) w (.slice (some ⟨g, 0, none⟩) n cap) O) (hg : ∃ cur, w.heap[g]? = some (.cells cur e (0, 0))) {j : Nat} {q : Pt} (hq : O[j]? = some q) (hj : j < O.length) (m : Int) {u : Value} (hI : ∀ w' : World, RItems (Ty T w') w' u []) (hu : u.oneCell' = true) :
    OwnS B e 7 (RPtI T) ((w.setCell ⟨g, j * 7 + 1, none⟩ (.int .i64 m)).setCell ⟨g, j * 7 + 2, none⟩ u).drew.drew (.slice (some ⟨g, 0, none⟩) n cap) (O.set j { q with n := m, its := [] }) := by
  have h1 := own_n hT h hg hq m
  obtain ⟨cur, hg⟩ := hg
  have h2 := own_its (q := { q with n := m }) hT h1 ⟨_, heap_setCell_same _ _ _ _ _ _ hg⟩ (List.getElem?_set_self hj) (hI _) hu
  rw [List.set_set] at h2
  exact own_drewN h2 2

set_option maxRecDepth 100000 in
set_option maxHeartbeats 4000000 in
theorem add_old (B : Nat) (v : Value) (O : List Pt) (p : Pt) (sv : Value) (w : World) (ho : OwnS B 57 7 (RPtI 42) w v O) (F : Nat → Prop) (hits : RItems F w sv p.its) (hB : B ≤ w.heap.size) (hl : p.its.length ≤ 100000)
    (hk : p.k ≠ 2) (hn : p.n ≠ 0) (hn0 : 0 ≤ p.n) (hn1 : p.n ≤ 1000000) (hpi : p.its = []) (j : Nat) (hj : O.length = j + 1) (hj5 : j ≤ 100000) (q : Pt) (hq : O[j]? = some q) (hal : alikeP q p = true) (hqi : q.its = []) (hm0 : 0 ≤ q.n) (hm1 : q.n ≤ 1000000) :
    Calls Try.prog 139 #[v, pv p sv] w fun e w' => ∃ u, e = .returned u ∧ OwnS B 57 7 (RPtI 42) w' u (addP O p) ∧ Below B w w' ∧ Kpt v w w' := by
  have hres := Lib.hid (addP_old (by simp [hk, hn]) hj hq hal)
  have hal' := Lib.hid hal; clear hal
  obtain ⟨g, c, cur, rfl, hgB, hg0⟩ := ho.shape (by intro e; rw [e] at hj; simp at hj)
  obtain ⟨sa, sc, rfl, hsn⟩ := RdS.len hits
  have hgw : g < w.heap.size := lt_of_heap hg0
  have hI := Lib.hid hits; clear hits
  have ho' := Lib.hid ho; clear ho
  have hq' := Lib.hid hq; clear hq
  have hjc : j + 1 ≤ c := by have := ho'.out.rd.capLe; omega
  have hj' := Lib.hid hj
  have hj0 : (0 : Int) ≤ (j : Int) := by omega
  have hj1 : (j : Int) < (j : Int) + 1 := by omega
  have hOl : O.length ≤ 100001 := by omega
  rw [hj]
  clear hj hg0
  obtain ⟨xk, xn, xits, xset, xclr, xto, xl⟩ := p
  obtain ⟨yk, yn, yits, yset, yclr, yto, yl⟩ := q
  simp only at hI hsn hl hk hn hn0 hn1 hm0 hm1 hpi hqi
  subst hpi hqi
  have e0 : (xk != 2) = true := by simpa using hk
  have e1 : (xn == 0) = false := by simpa using hn
  have e2 : (xk == 2) = false := by simpa using hk
  clear hk hn
  · skip
    go_enter Try.func139, Try.ntmps139
    go_wp2_with fail
    refine (cloneItems_any F _ [] _ (hI.out.to (Kp.below (bal (brf _) _))) hl).mono ?_
    rintro e w2 ⟨v2, rfl, ho2, hb2⟩
    obtain ⟨a2, c2, rfl, _⟩ := RdS.len ho2.rd
    have HB : Below w.heap.size w w2 := (bal (brf w) _).trans (hb2.mono (by simp))
    have hbx := (hb2.block w.heap.size (by simp)).trans (heap_new _ _)
    have hcl : Hid (RItems (Ty 42 w2) w2 (.slice a2 0 c2) []) := Lib.hid ho2.rdT
    have hbx' := Lib.hid hbx
    obtain ⟨a0, a1, b2, a3, a4, a5, a6⟩ := P7.of hbx
    have f2 : w2.frozen? ⟨w.heap.size, 2, none⟩ = false := Lib.frozen_of_heap hbx _
    have hws : w.heap.size < w2.heap.size := lt_of_heap hbx
    clear ho2 hb2 hbx
    go_wp2_with fail
    refine name_world ?_
    intro w3 hW3
    have HB3 : Below w.heap.size w w3 := by rw [← hW3]; exact HB.setCell (Nat.le_refl _) _
    have hb3 : w3.heap[w.heap.size]? = some (.cells #[.int .i64 xk, .int .i64 xn, .slice a2 0 c2, .int .i64 xset, .int .i64 xclr, .bool xto, str xl] 57 (0, 0)) := by
      rw [← hW3, heap_setCell_same _ _ _ _ _ _ hbx'.out]; rfl
    have hcl3 : Hid (RItems (Ty 42 w3) w3 (.slice a2 0 c2) []) := Lib.hid (RItemsT_keep hcl.out fun k hk => by rw [← hW3]; exact heap_setCell_other _ _ _ _ (hk.ne hbx'.out (by decide)))
    have hws3 : w.heap.size < w3.heap.size := lt_of_heap hb3
    clear hW3 hcl hbx' a0 a1 b2 a3 a4 a5 a6 f2 HB
    obtain ⟨a0, a1, b2, a3, a4, a5, a6⟩ := P7.of hb3
    clear hb3
    have ho3 := Lib.hid (ho'.out.below HB3 fun cs x _ r => r.below HB3)
    obtain ⟨b, o, qv, e9, hqits, d0, d1, d2, d3, d4, d5, d6⟩ := ROp.at ho3.out.readT (Below.refl _ _) hq'.out
    cases e9
    simp only [Nat.zero_add] at d0 d1 d2 d3 d4 d5 d6
    obtain ⟨ya, yc, rfl, hyn⟩ := RdS.len hqits
    have hyi := Lib.hid hqits
    clear hqits
    have Q : w3.cell? ⟨g, j * 7, none⟩ = some (.int .i64 yk) ∧ w3.cell? ⟨g, j * 7 + 1, none⟩ = some (.int .i64 yn) ∧ w3.cell? ⟨g, j * 7 + 2, none⟩ = some (.slice ya 0 yc) ∧ w3.cell? ⟨g, j * 7 + 3, none⟩ = some (.int .i64 yset) ∧ w3.cell? ⟨g, j * 7 + 4, none⟩ = some (.int .i64 yclr) ∧ w3.cell? ⟨g, j * 7 + 5, none⟩ = some (.bool yto) ∧ w3.cell? ⟨g, j * 7 + 6, none⟩ = some (str yl) ∧ w3.cell? ⟨w.heap.size, 0, none⟩ = some (.int .i64 xk) ∧ w3.cell? ⟨w.heap.size, 1, none⟩ = some (.int .i64 xn) ∧ w3.cell? ⟨w.heap.size, 2, none⟩ = some (.slice a2 0 c2) ∧ w3.cell? ⟨w.heap.size, 3, none⟩ = some (.int .i64 xset) ∧ w3.cell? ⟨w.heap.size, 4, none⟩ = some (.int .i64 xclr) ∧ w3.cell? ⟨w.heap.size, 5, none⟩ = some (.bool xto) ∧ w3.cell? ⟨w.heap.size, 6, none⟩ = some (str xl) ∧ Below w3.heap.size w3 w3 := ⟨d0, d1, d2, d3, d4, d5, d6, a0, a1, b2, a3, a4, a5, a6, brf w3⟩
    clear d0 d1 d2 d3 d4 d5 d6 a0 a1 b2 a3 a4 a5 a6
    go_region_held3 (fun w' => w'.cell? ⟨g, j * 7, none⟩ = some (.int .i64 yk) ∧ w'.cell? ⟨g, j * 7 + 1, none⟩ = some (.int .i64 yn) ∧ w'.cell? ⟨g, j * 7 + 2, none⟩ = some (.slice ya 0 yc) ∧ w'.cell? ⟨g, j * 7 + 3, none⟩ = some (.int .i64 yset) ∧ w'.cell? ⟨g, j * 7 + 4, none⟩ = some (.int .i64 yclr) ∧ w'.cell? ⟨g, j * 7 + 5, none⟩ = some (.bool yto) ∧ w'.cell? ⟨g, j * 7 + 6, none⟩ = some (str yl) ∧ w'.cell? ⟨w.heap.size, 0, none⟩ = some (.int .i64 xk) ∧ w'.cell? ⟨w.heap.size, 1, none⟩ = some (.int .i64 xn) ∧ w'.cell? ⟨w.heap.size, 2, none⟩ = some (.slice a2 0 c2) ∧ w'.cell? ⟨w.heap.size, 3, none⟩ = some (.int .i64 xset) ∧ w'.cell? ⟨w.heap.size, 4, none⟩ = some (.int .i64 xclr) ∧ w'.cell? ⟨w.heap.size, 5, none⟩ = some (.bool xto) ∧ w'.cell? ⟨w.heap.size, 6, none⟩ = some (str xl) ∧ Below w3.heap.size w3 w') (first | exact keep15 (by assumption) (by assumption) | exact keep15 Q (Below.refl _ _).drew)
      (first | (go_at_call 90; refine (alike_any ⟨yk, yn, [], yset, yclr, yto, yl⟩ ⟨xk, xn, [], xset, xclr, xto, xl⟩ _ _ _).mono ?_; rintro e w4 ⟨rfl, hb4⟩; rw [hal'.out]))
    go_wp2_with fail
    refine name_world ?_
    intro w5 hW5
    have Q5 : w5.cell? ⟨g, j * 7, none⟩ = some (.int .i64 yk) ∧ w5.cell? ⟨g, j * 7 + 1, none⟩ = some (.int .i64 yn) ∧ w5.cell? ⟨g, j * 7 + 2, none⟩ = some (.slice ya 0 yc) ∧ w5.cell? ⟨g, j * 7 + 3, none⟩ = some (.int .i64 yset) ∧ w5.cell? ⟨g, j * 7 + 4, none⟩ = some (.int .i64 yclr) ∧ w5.cell? ⟨g, j * 7 + 5, none⟩ = some (.bool yto) ∧ w5.cell? ⟨g, j * 7 + 6, none⟩ = some (str yl) ∧ w5.cell? ⟨w.heap.size, 0, none⟩ = some (.int .i64 xk) ∧ w5.cell? ⟨w.heap.size, 1, none⟩ = some (.int .i64 xn) ∧ w5.cell? ⟨w.heap.size, 2, none⟩ = some (.slice a2 0 c2) ∧ w5.cell? ⟨w.heap.size, 3, none⟩ = some (.int .i64 xset) ∧ w5.cell? ⟨w.heap.size, 4, none⟩ = some (.int .i64 xclr) ∧ w5.cell? ⟨w.heap.size, 5, none⟩ = some (.bool xto) ∧ w5.cell? ⟨w.heap.size, 6, none⟩ = some (str xl) ∧ Below w3.heap.size w3 w5 := by rw [← hW5]; assumption
    clear hW5 Q
    obtain ⟨d0, d1, d2, d3, d4, d5, d6, a0, a1, b2, a3, a4, a5, a6, hB5⟩ := Q5
    have ho5 := Lib.hid (ho3.out.below hB5 fun cs x _ r => r.below hB5)
    obtain ⟨_, _, cur5, e9, _, hg5⟩ := ho5.out.shape (by intro e; have := hj'.out; rw [e] at this; simp at this)
    cases e9
    have f1 : w5.frozen? ⟨g, j * 7 + 1, none⟩ = false := Lib.frozen_of_heap hg5 _
    have f2 : w5.frozen? ⟨g, j * 7 + 2, none⟩ = false := Lib.frozen_of_heap hg5 _
    have hg5' := Lib.hid hg5; clear hg5
    have hs1 : IntKind.i64.wrap (yn + xn) = yn + xn := IntWalk.i64_in _ (by omega)
    have hgne : ¬ w.heap.size = g := by omega
    have hgne2 : ¬ g = w.heap.size := by omega
    go_region
    go_wp2_with fail
    cases a2 <;> cases ya
    all_goals
      go_region
      go_wp2_with fail
      go_ret
      refine ⟨.slice (some ⟨g, 0, none⟩) (j + 1) c, rfl, ?_, ?_, ?_⟩
      · rw [hres.out]
        have ho6 := ho5.out
        rw [hj'.out] at ho6
        exact own_bump (by decide) ho6 ⟨_, hg5'.out⟩ hq'.out (by rw [hj'.out]; omega) (yn + xn) (by first | exact fun _ => ritems_nil hyi.out | exact fun _ => RdS.nil) rfl
      · exact bdrewN ((((HB3.trans (hB5.mono HB3.size)).mono hB).setCell hgB _).setCell hgB _) 2
      · exact fun k hk hn => by
          have hkg : k ≠ g := fun e => hn (by rw [e]; rfl)
          exact (heap_setCell_other _ _ _ _ hkg).trans ((heap_setCell_other _ _ _ _ hkg).trans ((HB3.trans (hB5.mono HB3.size)).block k hk))
end Go.Proofs.Ytgodceplajkcdaa
