/- The references on operations: acts, one an item. -/
import Derived.Test.YtckdlhgeelhnmaaGreatRefM
import Derived.Test.YtckdlhgeelhnmaaGreatOpDo
import Derived.Test.YtckdlhgeelhnmaaGreatPlR
import Derived.Test.YtckdlhgeelhnmaaGreatOpTidy
import Derived.BigQuiet
namespace Go.Mh
open Go.RowKit
/-- An empty slice. -/
def E0 (sv : Value) : Prop := ∃ a c, sv = .slice a 0 c ∧ c ≤ maxLen ∧ (a = none → c = 0)
theorem E0.its {sv : Value} (h : E0 sv) (F : Nat → Prop) (w : World) : RItems F w sv [] := by
  obtain ⟨a, c, rfl, h1, h2⟩ := h
  exact ⟨a, c, rfl, Nat.zero_le _, h1, h2, fun i x hx => by simp at hx⟩
theorem E0.of {F : Nat → Prop} {w : World} {sv : Value} (h : RItems F w sv []) : E0 sv := by
  obtain ⟨a, c, rfl, _, h1, h2, _⟩ := h
  exact ⟨a, c, rfl, h1, h2⟩
theorem E0.nil : E0 (.slice none 0 0) := ⟨none, 0, rfl, Nat.zero_le _, fun _ => rfl⟩
theorem E0.one {sv : Value} (h : E0 sv) : sv.oneCell' = true := by obtain ⟨a, c, rfl, _⟩ := h; rfl
/-- The cells of an act. -/
def acC (sv : Value) : Ac → List Value
  | .put x => [.int .i64 2, .int .u8 x.c.toNat, .int .i64 x.m, str x.l, .int .i64 0, .int .i64 0, .slice none 0 0, .int .i64 0, .int .i64 0, .bool false, .string ⟨#[]⟩]
  | .keep c => [.int .i64 1, .int .u8 0, .int .i64 0, .string ⟨#[]⟩, .int .i64 1, .int .i64 1, sv, .int .i64 c.set, .int .i64 c.clr, .bool c.to, str c.l]
  | .cut => [.int .i64 3, .int .u8 0, .int .i64 0, .string ⟨#[]⟩, .int .i64 3, .int .i64 1, sv, .int .i64 0, .int .i64 0, .bool false, str []]
def RAc (_ : World) (cs : List Value) (a : Ac) : Prop := ∃ sv, E0 sv ∧ cs = acC sv a
theorem acC_len (sv : Value) (a : Ac) : (acC sv a).length = 11 := by cases a <;> rfl
theorem RAc_one : ∀ (w : World) (cs : List Value) (a : Ac), RAc w cs a → ∀ u ∈ cs, u.oneCell' = true := by
  rintro w _ a ⟨sv, h, rfl⟩ u hu
  have := h.one
  cases a <;> simp [acC] at hu <;> rcases hu with rfl | rfl | rfl | rfl | rfl | rfl | rfl | rfl | rfl | rfl | rfl <;> first | rfl | assumption
abbrev RActs := RdS 11 RAc
theorem RActs.to {F F' : Nat → Prop} {w w' : World} {v : Value} {L : List Ac} (h : RActs F w v L) (hk : Kp F F' w w') : RActs F' w' v L := RdS.to h (by decide) hk fun _ _ _ r => r
end Go.Mh
namespace Go.Proofs.YtckdlhgeelhnmaaGreat
open Go.RowKit Go.Mh

theorem elActs : El Tryz.prog 109 114 11 120 (.agg #[.int .i64 0, .int .u8 0, .int .i64 0, .string ⟨#[]⟩, .int .i64 0, .int .i64 0, .slice none 0 0, .int .i64 0, .int .i64 0, .bool false, .string ⟨#[]⟩]) := ⟨Tryz.underlying109, by kernel_rfl, rfl, by decide⟩
abbrev OwnA (B : Nat) (w : World) (v : Value) (L : List Ac) : Prop := OwnS B 114 11 RAc w v L
theorem OwnA.to {B : Nat} {w w' : World} {v : Value} {L : List Ac} (h : OwnA B w v L) (hb : Below w.heap.size w w') : OwnA B w' v L := h.below hb fun _ _ _ r => r

theorem acts_len {L : List Pt} (hok : OpOk L) (k : Nat) (hk : k ≤ L.length) : (acts (L.take k)).length ≤ 100 * k := by
  induction k with
  | zero => simp [acts]
  | succ k ih =>
    obtain ⟨p, hp⟩ : ∃ x, L[k]? = some x := ⟨_, List.getElem?_eq_getElem (by omega)⟩
    have := ih (by omega)
    have hm := List.mem_of_getElem? hp
    have h1 := hok.n80 p hm
    have h2 := hok.i80 p hm
    have h3 : (actsP p).length ≤ 100 := by unfold actsP; (repeat' split) <;> simp <;> omega
    rw [acts_take hp, List.length_append]
    omega
theorem take_map_put {l : List It} {j : Nat} {x : It} (h : l[j]? = some x) : (l.take (j + 1)).map Ac.put = (l.take j).map Ac.put ++ [.put x] := by
  rw [List.take_add_one, h]; simp

set_option maxRecDepth 100000 in
set_option maxHeartbeats 4000000 in
theorem refActs_any (G : Nat → Prop) (u : Value) (L : List Pt) (w : World) (g : ROp G w u L) (hok : OpOk L) :
    Calls Tryz.prog 87 #[u] w fun e w' => ∃ r, e = .returned r ∧ OwnA w.heap.size w' r (acts L) ∧ Below w.heap.size w w' := by
  obtain ⟨a', cap', rfl, hn'⟩ := RdS.len g
  have G' := Lib.hid g; clear g
  have hlen := Lib.hid (fun k => acts_len hok k)
  have hL40 := hok.len
  go_enter Tryz.func87, Tryz.ntmps87
  go_wp2
  go_loopw [3, 11] (fun v i wr => ∃ k : Nat, k ≤ L.length ∧ i = .int .i64 k ∧ OwnA w.heap.size wr v (acts (L.take k)) ∧ Below w.heap.size w wr) (fun _ i _ => L.length - (intOf i).toNat)
  case atStart => exact ⟨0, Nat.zero_le _, rfl, OwnS.nil, Below.refl _ _⟩
  case round =>
    obtain ⟨k, hk, rfl, ho, hb⟩ := hrel
    have ho' := Lib.hid ho; clear ho
    by_cases hlt : k < L.length
    · obtain ⟨p, hp⟩ : ∃ x, L[k]? = some x := ⟨_, List.getElem?_eq_getElem hlt⟩
      obtain ⟨b, o, sv, rfl, hits, d0, d1, d2, d3, d4, d5, d6⟩ := ROp.at G'.out (brf w) hp
      have c0 := (hb.cell (lt_of_cell d0)).trans d0; clear d0
      have c1 := (hb.cell (lt_of_cell d1)).trans d1; clear d1
      have c2 := (hb.cell (lt_of_cell d2)).trans d2; clear d2
      have c3 := (hb.cell (lt_of_cell d3)).trans d3; clear d3
      have c4 := (hb.cell (lt_of_cell d4)).trans d4; clear d4
      have c5 := (hb.cell (lt_of_cell d5)).trans d5; clear d5
      have c6 := (hb.cell (lt_of_cell d6)).trans d6; clear d6
      obtain ⟨sa, sc, rfl, hsn⟩ := RdS.len hits
      have hbs : b < wr.heap.size := lt_of_cell c0
      have hI := Lib.hid hits; clear hits
      have htp := Lib.hid (hok.tp p (List.mem_of_getElem? hp))
      have hn80 := hok.n80 p (List.mem_of_getElem? hp)
      have hi80 := hok.i80 p (List.mem_of_getElem? hp)
      have hlk : (acts (L.take k)).length ≤ 4000 := by have := hlen.out k hk; omega
      have hnext := Lib.hid (acts_take hp)
      clear hp
      generalize acts (L.take k) = base at *
      obtain ⟨pk, pn, its, set, clr, to, l⟩ := p
      simp only at hn80 hi80 hsn c0 c1 c2 c3 c4 c5 c6 hI
      go_wp2
      obtain ⟨wo, rfl⟩ : ∃ wo : World, wo = wr := ⟨_, rfl⟩
      go_loopw [3, 18] (fun v j ws => ∃ j' : Nat, j' ≤ its.length ∧ j = .int .i64 j' ∧ OwnA w.heap.size ws v (base ++ (its.take j').map .put) ∧ ws.heap[wo.heap.size]? = some (.cells #[.int .i64 pk, .int .i64 pn, .slice sa its.length sc, .int .i64 set, .int .i64 clr, .bool to, str l] 112 (0, 0)) ∧ Below w.heap.size w ws) (fun _ j _ => its.length - (intOf j).toNat)
      case atStart => exact ⟨0, Nat.zero_le _, rfl, by simpa using OwnA.to ho'.out (bal (brf _) _), heap_new _ _, bal hb _⟩
      case round =>
        obtain ⟨j, hj, rfl, hoi, hbox, hbi⟩ := hrel
        have hoi' := Lib.hid hoi; clear hoi
        have hbox' := Lib.hid hbox; clear hbox
        have hwos : wo.heap.size < wr.heap.size := lt_of_heap hbox'.out
        have hww := hb.size
        obtain ⟨a0, a1, a2, a3, a4, a5, a6⟩ := P7.of hbox'.out
        by_cases hjl : j < its.length
        · obtain ⟨x, hx⟩ : ∃ x, its[j]? = some x := ⟨_, List.getElem?_eq_getElem hjl⟩
          obtain ⟨b3, o3, e3, x0, x1, x2⟩ := RItems.at hI.out hbi hx
          cases e3
          have hb3s : b3 < wr.heap.size := lt_of_cell x0
          have hstep := Lib.hid (take_map_put hx)
          have hll : (base ++ (its.take j).map Ac.put).length ≤ 5000 := by simp; omega
          clear hx
          obtain ⟨xc, xm, xl⟩ := x
          have hoi1 := Lib.hid (OwnA.to hoi'.out (bal (brf wr) (.cells #[.int .u8 xc.toNat, .int .i64 xm, str xl] 50)))
          have hbx1 := Lib.hid (((bal (brf wr) (.cells #[.int .u8 xc.toNat, .int .i64 xm, str xl] 50)).block _ hwos).trans hbox'.out)
          go_wp2_with (at_builtin; refine wpList_app1 rfl (.tmp 22) (.tmp 25) 109 rfl w.heap.size 114 11 120 _ elActs RAc _ (base ++ (its.take j).map Ac.put) rfl hoi1.out (.put ⟨xc, xm, xl⟩) (acC (.slice none 0 0) (.put ⟨xc, xm, xl⟩)) 114 _ rfl (by simp) rfl (fun _ _ => ⟨_, E0.nil, rfl⟩) RAc_one (by unfold maxLen; omega) (by omega) (by simp; omega) (fun _ _ _ _ _ r => r) ?_; intro v2 w2 ho2 hb2 hz2 hkeep)
          have hbox2 := Lib.hid ((hkeep _ (by first | omega | (simp; omega)) (hoi1.out.ne hbx1.out (by decide))).trans hbx1.out)
          have ho2' := Lib.hid ho2
          clear ho2 hkeep
          go_wp2
          go_roundw
          case rel => exact ⟨j + 1, by omega, by go_num, by rw [hstep.out, ← List.append_assoc]; exact ho2'.out, hbox2.out, (bal hbi _).trans hb2⟩
          case measure => simp [intOf]; omega
        · obtain rfl : j = its.length := by omega
          rw [List.take_length] at hoi'
          rcases htp.out with ⟨c, n, hn0, hc, hpe⟩ | ⟨l', hl0, hli, hpe⟩ | ⟨n, hn0, hpe⟩
          · simp only [keepP, Pt.mk.injEq] at hpe
            obtain ⟨rfl, rfl, hi1, rfl, rfl, rfl, rfl⟩ := hpe
            have hi0 := Lib.hid hi1
            clear hi1
            obtain ⟨m, rfl⟩ : ∃ m : Nat, pn = (m : Int) := ⟨pn.toNat, by omega⟩
            obtain ⟨set, clr, to, l⟩ := c
            have hE : E0 (.slice sa its.length sc) := by have h := hI.out; rw [hi0.out] at h ⊢; exact E0.of h
            have hn2 := Lib.hid (hnext.out : acts (L.take (k + 1)) = base ++ List.replicate m (Ac.keep ⟨set, clr, to, l⟩))
            have hb0 : base ++ its.map Ac.put = base := by rw [hi0.out]; simp
            rw [hb0] at hoi'
            clear hnext htp hn0 hb0
            go_wp2
            obtain ⟨wp, rfl⟩ : ∃ wp : World, wp = wr := ⟨_, rfl⟩
            go_loopw [3, 33] (fun v j ws => ∃ j' : Nat, j' ≤ m ∧ j = .int .i64 j' ∧ OwnA w.heap.size ws v (base ++ List.replicate j' (Ac.keep ⟨set, clr, to, l⟩)) ∧ ws.heap[wo.heap.size]? = some (.cells #[.int .i64 1, .int .i64 m, .slice sa its.length sc, .int .i64 set, .int .i64 clr, .bool to, str l] 112 (0, 0)) ∧ Below w.heap.size w ws) (fun _ j _ => m - (intOf j).toNat)
            case atStart => exact ⟨0, Nat.zero_le _, rfl, by simpa using hoi'.out, hbox'.out, hbi⟩
            case round =>
              clear hoi' hbox' a0 a1 a2 a3 a4 a5 a6 hbi hwos
              obtain ⟨j, hj, rfl, hoi, hbox, hbi⟩ := hrel
              have hoi' := Lib.hid hoi; clear hoi
              have hbox' := Lib.hid hbox; clear hbox
              have hwos : wo.heap.size < wr.heap.size := lt_of_heap hbox'.out
              obtain ⟨a0, a1, a2, a3, a4, a5, a6⟩ := P7.of hbox'.out
              by_cases hjl : j < m
              · have hll : (base ++ List.replicate j (Ac.keep ⟨set, clr, to, l⟩)).length ≤ 5000 := by simp; omega
                have hstep : Hid (base ++ List.replicate (j + 1) (Ac.keep ⟨set, clr, to, l⟩) = base ++ List.replicate j (Ac.keep ⟨set, clr, to, l⟩) ++ [(Ac.keep ⟨set, clr, to, l⟩)]) := Lib.hid (by rw [List.append_assoc, List.replicate_succ'])
                have hoi1 := Lib.hid (OwnA.to hoi'.out (bal (brf wr) (.cells #[.int .i64 1, .int .i64 1, .slice sa its.length sc, .int .i64 set, .int .i64 clr, .bool to, str l] 112)))
                have hbx1 := Lib.hid (((bal (brf wr) (.cells #[.int .i64 1, .int .i64 1, .slice sa its.length sc, .int .i64 set, .int .i64 clr, .bool to, str l] 112)).block _ hwos).trans hbox'.out)
                go_wp2_with (at_builtin; refine wpList_app1 rfl (.tmp 37) (.tmp 42) 109 rfl w.heap.size 114 11 120 _ elActs RAc _ (base ++ List.replicate j (Ac.keep ⟨set, clr, to, l⟩)) rfl hoi1.out ((Ac.keep ⟨set, clr, to, l⟩)) (acC (.slice sa its.length sc) ((Ac.keep ⟨set, clr, to, l⟩))) 114 _ rfl (by first | rfl | simp) rfl (fun _ _ => ⟨_, hE, rfl⟩) RAc_one (by unfold maxLen; omega) (by omega) (by first | omega | (simp; omega)) (fun _ _ _ _ _ r => r) ?_; intro v2 w2 ho2 hb2 hz2 hkeep)
                have hbox2 := Lib.hid ((hkeep _ (by first | omega | (simp; omega)) (hoi1.out.ne hbx1.out (by decide))).trans hbx1.out)
                have ho2' := Lib.hid ho2
                clear ho2 hkeep
                go_wp2
                go_roundw
                case rel => exact ⟨j + 1, by omega, by go_num, by rw [hstep.out]; exact ho2'.out, hbox2.out, (bal hbi _).trans hb2⟩
                case measure => simp [intOf]; omega
              · obtain rfl : j = m := by omega
                go_wp2
                go_roundw
                case rel => exact ⟨k + 1, by omega, by go_num, by rw [hn2.out]; exact hoi'.out, hbi⟩
                case measure => simp [intOf]; omega
          · simp only [putP, Pt.mk.injEq] at hpe
            obtain ⟨rfl, rfl, rfl, rfl, rfl, rfl, rfl⟩ := hpe
            have hn2 := Lib.hid (hnext.out.trans (congrArg (base ++ ·) (actsP_put its) : base ++ actsP (putP its) = base ++ its.map Ac.put))
            clear hnext htp hli hl0
            go_wp2
            go_roundw
            case rel => exact ⟨k + 1, by omega, by go_num, by rw [hn2.out]; exact hoi'.out, hbi⟩
            case measure => simp [intOf]; omega
          · simp only [cutP, Pt.mk.injEq] at hpe
            obtain ⟨rfl, rfl, hi1, rfl, rfl, rfl, hl1⟩ := hpe
            have hi0 := Lib.hid hi1
            clear hi1
            have hl0 := Lib.hid hl1
            clear hl1
            obtain ⟨m, rfl⟩ : ∃ m : Nat, pn = (m : Int) := ⟨pn.toNat, by omega⟩
            have hE : E0 (.slice sa its.length sc) := by have h := hI.out; rw [hi0.out] at h ⊢; exact E0.of h
            have hn2 := Lib.hid ((by rw [hnext.out]; rfl) : acts (L.take (k + 1)) = base ++ List.replicate m Ac.cut)
            have hb0 : base ++ its.map Ac.put = base := by rw [hi0.out]; simp
            rw [hb0] at hoi'
            clear hnext htp hn0 hb0
            go_wp2
            obtain ⟨wp, rfl⟩ : ∃ wp : World, wp = wr := ⟨_, rfl⟩
            go_loopw [3, 33] (fun v j ws => ∃ j' : Nat, j' ≤ m ∧ j = .int .i64 j' ∧ OwnA w.heap.size ws v (base ++ List.replicate j' Ac.cut) ∧ ws.heap[wo.heap.size]? = some (.cells #[.int .i64 3, .int .i64 m, .slice sa its.length sc, .int .i64 0, .int .i64 0, .bool false, str l] 112 (0, 0)) ∧ Below w.heap.size w ws) (fun _ j _ => m - (intOf j).toNat)
            case atStart => exact ⟨0, Nat.zero_le _, rfl, by simpa using hoi'.out, hbox'.out, hbi⟩
            case round =>
              clear hoi' hbox' a0 a1 a2 a3 a4 a5 a6 hbi hwos
              obtain ⟨j, hj, rfl, hoi, hbox, hbi⟩ := hrel
              have hoi' := Lib.hid hoi; clear hoi
              have hbox' := Lib.hid hbox; clear hbox
              have hwos : wo.heap.size < wr.heap.size := lt_of_heap hbox'.out
              obtain ⟨a0, a1, a2, a3, a4, a5, a6⟩ := P7.of hbox'.out
              by_cases hjl : j < m
              · have hll : (base ++ List.replicate j Ac.cut).length ≤ 5000 := by simp; omega
                have hstep : Hid (base ++ List.replicate (j + 1) Ac.cut = base ++ List.replicate j Ac.cut ++ [Ac.cut]) := Lib.hid (by rw [List.append_assoc, List.replicate_succ'])
                have hoi1 := Lib.hid (OwnA.to hoi'.out (bal (brf wr) (.cells #[.int .i64 3, .int .i64 1, .slice sa its.length sc, .int .i64 0, .int .i64 0, .bool false, str l] 112)))
                have hbx1 := Lib.hid (((bal (brf wr) (.cells #[.int .i64 3, .int .i64 1, .slice sa its.length sc, .int .i64 0, .int .i64 0, .bool false, str l] 112)).block _ hwos).trans hbox'.out)
                go_wp2_with (at_builtin; refine wpList_app1 rfl (.tmp 37) (.tmp 42) 109 rfl w.heap.size 114 11 120 _ elActs RAc _ (base ++ List.replicate j Ac.cut) rfl hoi1.out (Ac.cut) [.int .i64 3, .int .u8 0, .int .i64 0, .string ⟨#[]⟩, .int .i64 3, .int .i64 1, .slice sa its.length sc, .int .i64 0, .int .i64 0, .bool false, str l] 114 _ rfl (by first | rfl | simp) rfl (fun _ _ => ⟨_, hE, by rw [hl0.out] <;> rfl⟩) RAc_one (by unfold maxLen; omega) (by omega) (by first | omega | (simp; omega)) (fun _ _ _ _ _ r => r) ?_; intro v2 w2 ho2 hb2 hz2 hkeep)
                have hbox2 := Lib.hid ((hkeep _ (by first | omega | (simp; omega)) (hoi1.out.ne hbx1.out (by decide))).trans hbx1.out)
                have ho2' := Lib.hid ho2
                clear ho2 hkeep
                go_wp2
                go_roundw
                case rel => exact ⟨j + 1, by omega, by go_num, by rw [hstep.out]; exact ho2'.out, hbox2.out, (bal hbi _).trans hb2⟩
                case measure => simp [intOf]; omega
              · obtain rfl : j = m := by omega
                go_wp2
                go_roundw
                case rel => exact ⟨k + 1, by omega, by go_num, by rw [hn2.out]; exact hoi'.out, hbi⟩
                case measure => simp [intOf]; omega
    · obtain rfl : k = L.length := by omega
      have hfin : Hid (acts (L.take L.length) = acts L) := Lib.hid (by rw [List.take_length])
      go_wp2
      go_ret
      exact ⟨_, rfl, by rw [← hfin.out]; exact ho'.out, hb⟩
end Go.Proofs.YtckdlhgeelhnmaaGreat
/- The references on operations: acts made an operation again. -/
namespace Go.Proofs.YtckdlhgeelhnmaaGreat
open Go.RowKit Go.Mh

/-- A part whose items lie in a row of items, made since B and ahead of b. -/
def RPb (B b : Nat) (w : World) (cs : List Value) (p : Pt) : Prop := RPt (fun k => B ≤ k ∧ k < b ∧ Ty 50 w k) w cs p
theorem RPb.keep {B b b' : Nat} {w w' : World} {cs : List Value} {p : Pt} (h : RPb B b w cs p) (hbb : b ≤ b') (hk : ∀ k, k < b → Ty 50 w k → w'.heap[k]? = w.heap[k]?) : RPb B b' w' cs p :=
  RPt.to h fun k ⟨h1, h2, hT⟩ _ => ⟨⟨h1, by omega, by obtain ⟨xs, fr, e⟩ := hT; exact ⟨xs, fr, (hk k h2 ⟨xs, fr, e⟩).trans e⟩⟩, hk k h2 hT⟩
theorem RPb_one (B b : Nat) : ∀ (w : World) (cs : List Value) (x : Pt), RPb B b w cs x → ∀ u ∈ cs, u.oneCell' = true := fun w cs x h => RPt_one _ w cs x h

/-- The three captured variables, but for the row that is put. -/
structure Tc (B gp go gc : Nat) (w : World) (pv ov : Value) (out : List Pt) (c : Nat) (b : Nat) : Prop where
  hp : w.heap[gp]? = some (.cells #[pv] 33 (0, 0))
  ho : w.heap[go]? = some (.cells #[ov] 39 (0, 0))
  hc : w.heap[gc]? = some (.cells #[.int .i64 c] 3 (0, 0))
  O : OwnS B 112 7 (RPb B b) w ov out
  hs : b ≤ w.heap.size
  hB : B ≤ b
/-- The three captured variables: what is put, what is out, what is cut. -/
structure Td (B gp go gc : Nat) (w : World) (pv ov : Value) (out : List Pt) (ps : List It) (c : Nat) (b : Nat) : Prop where
  t : Tc B gp go gc w pv ov out c b
  P : OwnS b 50 3 RIt w pv ps

theorem cell1 {w : World} {g T : Nat} {v : Value} {fr : Nat × Nat} (h : w.heap[g]? = some (.cells #[v] T fr)) : w.cell? ⟨g, 0, none⟩ = some v := by unfold World.cell?; rw [h]; rfl
theorem fz1 {w : World} {g T : Nat} {v : Value} (h : w.heap[g]? = some (.cells #[v] T (0, 0))) : w.frozen? ⟨g, 0, none⟩ = false := by simp [World.frozen?, h]

section
variable {B gp go gc : Nat} {w w' : World} {pv ov : Value} {out : List Pt} {ps : List It} {c b : Nat}
/-- What leaves all old blocks leaves the variables. -/
theorem Tc.below (h : Tc B gp go gc w pv ov out c b) (hb : Below w.heap.size w w') : Tc B gp go gc w' pv ov out c b :=
  ⟨(hb.block _ (lt_of_heap h.hp)).trans h.hp, (hb.block _ (lt_of_heap h.ho)).trans h.ho, (hb.block _ (lt_of_heap h.hc)).trans h.hc,
    h.O.below hb fun _ _ _ r => r.keep (Nat.le_refl _) fun k hk _ => hb.block k (by have := h.hs; omega), by have := h.hs; have := hb.size; omega, h.hB⟩
theorem Td.below (h : Td B gp go gc w pv ov out ps c b) (hb : Below w.heap.size w w') : Td B gp go gc w' pv ov out ps c b := ⟨h.t.below hb, h.P.below hb fun _ _ _ r => r⟩
theorem Tc.raise (h : Tc B gp go gc w pv ov out c b) : Tc B gp go gc w pv ov out c w.heap.size :=
  ⟨h.hp, h.ho, h.hc, h.O.to (fun _ _ _ => rfl) fun _ _ _ r => r.keep h.hs fun _ _ _ => rfl, Nat.le_refl _, by have := h.hs; have := h.hB; omega⟩
theorem Tc.lt (h : Tc B gp go gc w pv ov out c b) : gp < w.heap.size ∧ go < w.heap.size ∧ gc < w.heap.size := ⟨lt_of_heap h.hp, lt_of_heap h.ho, lt_of_heap h.hc⟩
theorem Tc.cells (h : Tc B gp go gc w pv ov out c b) : w.cell? ⟨gp, 0, none⟩ = some pv ∧ w.cell? ⟨go, 0, none⟩ = some ov ∧ w.cell? ⟨gc, 0, none⟩ = some (.int .i64 c) ∧ w.frozen? ⟨gp, 0, none⟩ = false ∧ w.frozen? ⟨go, 0, none⟩ = false ∧ w.frozen? ⟨gc, 0, none⟩ = false :=
  ⟨cell1 h.hp, cell1 h.ho, cell1 h.hc, fz1 h.hp, fz1 h.ho, fz1 h.hc⟩
theorem Tc.ne (h : Tc B gp go gc w pv ov out c b) : gp ≠ go ∧ gp ≠ gc ∧ go ≠ gc :=
  ⟨fun e => by have k1 := h.hp; have k2 := h.ho; subst e; rw [k1] at k2; simp at k2, fun e => by have k1 := h.hp; have k2 := h.hc; subst e; rw [k1] at k2; simp at k2, fun e => by have k1 := h.ho; have k2 := h.hc; subst e; rw [k1] at k2; simp at k2⟩
theorem Tc.after (h : Tc B gp go gc w pv ov out c b) (u : Value) : (w.setCell ⟨gp, 0, none⟩ u).cell? ⟨gc, 0, none⟩ = some (.int .i64 c) ∧ (w.setCell ⟨gp, 0, none⟩ u).frozen? ⟨gc, 0, none⟩ = false := by
  have e : (w.setCell ⟨gp, 0, none⟩ u).heap[gc]? = some (.cells #[.int .i64 c] 3 (0, 0)) := (heap_setCell_other w _ gc u (Ne.symm h.ne.2.1)).trans h.hc
  exact ⟨cell1 e, fz1 e⟩
/-- The row of parts has grown, or an element of it was changed: nothing else. -/
theorem Tc.grow (h : Tc B gp go gc w pv ov out c b) {b' : Nat} (hbb : B ≤ b') (hbs : b' ≤ w'.heap.size) {ov' : Value} {out' : List Pt} (hk : ∀ k, k < w.heap.size → some k ≠ ov.ownBlock → w'.heap[k]? = w.heap[k]?) (hO : OwnS B 112 7 (RPb B b') w' ov' out') :
    Tc B gp go gc (w'.setCell ⟨go, 0, none⟩ ov') pv ov' out' c b' := by
  have k1 := (hk gp (lt_of_heap h.hp) (h.O.ne h.hp (by decide))).trans h.hp
  have k2 := (hk go (lt_of_heap h.ho) (h.O.ne h.ho (by decide))).trans h.ho
  have k3 := (hk gc (lt_of_heap h.hc) (h.O.ne h.hc (by decide))).trans h.hc
  obtain ⟨n1, _, n2⟩ := h.ne
  have hset : ∀ k, k ≠ go → (w'.setCell ⟨go, 0, none⟩ ov').heap[k]? = w'.heap[k]? := fun k hn => heap_setCell_other w' _ k _ hn
  refine ⟨(hset gp n1).trans k1, ?_, (hset gc (Ne.symm n2)).trans k3, ?_, by simpa using hbs, hbb⟩
  · have := heap_setCell_same w' go 0 _ _ ov' k2
    simpa using this
  · exact hO.to (fun k hke _ => hset k (fun e => by subst e; exact hO.ne k2 (by decide) hke.symm)) fun _ _ _ r => r.keep (Nat.le_refl _) fun k _ hT => hset k (fun e => by
      subst e
      exact hT.ne k2 (by decide) rfl)
theorem Td.grow (h : Td B gp go gc w pv ov out ps c b) (hz : w.heap.size ≤ w'.heap.size) {ov' : Value} {out' : List Pt} (hk : ∀ k, k < w.heap.size → some k ≠ ov.ownBlock → w'.heap[k]? = w.heap[k]?) (hO : OwnS B 112 7 (RPb B b) w' ov' out') :
    Td B gp go gc (w'.setCell ⟨go, 0, none⟩ ov') pv ov' out' ps c b := by
  refine ⟨h.t.grow h.t.hB (Nat.le_trans h.t.hs hz) hk hO, ?_⟩
  have k2 := (hk go (lt_of_heap h.t.ho) (h.t.O.ne h.t.ho (by decide))).trans h.t.ho
  have hP := h.P.to (w' := w') (R' := RIt) (fun k hke hkl => hk k hkl (fun e => by
    obtain ⟨css, ⟨_, h1⟩, _⟩ := h.P
    rcases h1 with ⟨rfl, _⟩ | ⟨g', cap, cur, rfl, _, hh, _⟩
    · simp [Value.ownBlock] at hke
    · simp [Value.ownBlock] at hke
      subst hke
      exact h.t.O.ne hh (by decide) e)) (fun _ _ _ r => r)
  exact hP.to (fun k hke _ => heap_setCell_other w' _ k _ (fun e => by subst e; exact hP.ne k2 (by decide) hke.symm)) fun _ _ _ r => r
/-- The variables reset. -/
theorem Tc.reset (h : Tc B gp go gc w pv ov out c b) : Td B gp go gc ((w.setCell ⟨gp, 0, none⟩ (.slice none 0 0)).setCell ⟨gc, 0, none⟩ (.int .i64 0)) (.slice none 0 0) ov out [] 0 w.heap.size := by
  obtain ⟨n1', n2', n3⟩ := h.ne
  have n1 := Ne.symm n1'
  have n2 := Ne.symm n2'
  have hset : ∀ k, k ≠ gp → k ≠ gc → ((w.setCell ⟨gp, 0, none⟩ (.slice none 0 0)).setCell ⟨gc, 0, none⟩ (.int .i64 0)).heap[k]? = w.heap[k]? := fun k h1 h2 => (heap_setCell_other _ _ k _ h2).trans (heap_setCell_other w _ k _ h1)
  have p1 := heap_setCell_same w gp 0 _ _ (.slice none 0 0) h.hp
  have p2 := (heap_setCell_other (w.setCell ⟨gp, 0, none⟩ (.slice none 0 0)) ⟨gc, 0, none⟩ gp (.int .i64 0) (Ne.symm n2)).trans p1
  have c1 := (heap_setCell_other w ⟨gp, 0, none⟩ gc (.slice none 0 0) n2).trans h.hc
  have c2 := heap_setCell_same (w.setCell ⟨gp, 0, none⟩ (.slice none 0 0)) gc 0 _ _ (.int .i64 0) c1
  refine ⟨⟨by simpa using p2, (hset go n1 n3).trans h.ho, by simpa using c2, ?_, by simp, by have := h.hs; have := h.hB; omega⟩, OwnS.nil⟩
  refine h.O.to (fun k hke _ => hset k (fun e => ?_) (fun e => ?_)) fun _ _ _ r => r.keep h.hs fun k _ hT => hset k (fun e => ?_) (fun e => ?_)
  · subst e; exact h.O.ne h.hp (by decide) hke.symm
  · subst e; exact h.O.ne h.hc (by decide) hke.symm
  · subst e; exact hT.ne h.hp (by decide) rfl
  · subst e; exact hT.ne h.hc (by decide) rfl
theorem Tc.typ (h : Tc B gp go gc w pv ov out c b) {k : Nat} (hT : Ty 114 w k) : k ≠ gp ∧ k ≠ go ∧ k ≠ gc ∧ some k ≠ ov.ownBlock := by
  refine ⟨hT.ne h.hp (by decide), hT.ne h.ho (by decide), hT.ne h.hc (by decide), ?_⟩
  obtain ⟨xs, fr, e⟩ := hT
  exact h.O.ne e (by decide)
theorem tyto {T : TypeId} {w w' : World} {k : Nat} (h : Ty T w k) (e : w'.heap[k]? = w.heap[k]?) : Ty T w' k := by obtain ⟨xs, fr, h⟩ := h; exact ⟨xs, fr, e.trans h⟩
theorem Tc.keepA (h : Tc B gp go gc w pv ov out c b) (hk : ∀ k, k < w.heap.size → some k ≠ ov.ownBlock → w'.heap[k]? = w.heap[k]?) (u : Value) {k : Nat} (hT : Ty 114 w k) : (w'.setCell ⟨go, 0, none⟩ u).heap[k]? = w.heap[k]? := by
  obtain ⟨_, n2, _, n4⟩ := h.typ hT
  exact (heap_setCell_other w' _ k _ n2).trans (hk k hT.lt n4)
theorem Tc.keepR (h : Tc B gp go gc w pv ov out c b) {k : Nat} (hT : Ty 114 w k) : ((w.setCell ⟨gp, 0, none⟩ (.slice none 0 0)).setCell ⟨gc, 0, none⟩ (.int .i64 0)).heap[k]? = w.heap[k]? := by
  obtain ⟨n1, _, n3, _⟩ := h.typ hT
  exact (heap_setCell_other _ _ k _ n3).trans (heap_setCell_other w _ k _ n1)
/-- What is put, as the items of a part. -/
theorem Td.its (h : Td B gp go gc w pv ov out ps c b) (hb : Below w.heap.size w w') : RPb B w.heap.size w' [.int .i64 2, .int .i64 0, pv, .int .i64 0, .int .i64 0, .bool false, .string ⟨#[]⟩] (putP ps) := by
  refine ⟨pv, rfl, ?_⟩
  have hr := h.P.rdN
  refine RItems.to hr fun k hke hkl => ?_
  obtain ⟨css, ⟨_, h1⟩, _⟩ := h.P
  rcases h1 with ⟨rfl, _⟩ | ⟨g', cap, cur, rfl, hg, hh, _⟩
  · simp [Value.ownBlock] at hke
  · simp [Value.ownBlock] at hke
    subst hke
    have hbk := hb.block g' hkl
    exact ⟨⟨by have := h.t.hB; omega, hkl, ⟨cur, _, hbk.trans hh⟩⟩, hbk⟩
end

theorem len_nil {α : Type} {bs e sz : Nat} {R : World → List Value → α → Prop} {w : World} {v : Value} {L : List α} (h : OwnS bs e sz R w v L) : ∃ a c, v = .slice a L.length c := by
  obtain ⟨a, c, rfl, _⟩ := RdS.len h.rd
  exact ⟨a, c, rfl⟩

/-- One part appended to the row of parts. -/
theorem wpList_appB {w : World} {ops : Array Oper} {rest : List Oper} {o : Oper} {a : Act} {Q : Exit → Act → World → Prop} (hgd : o.guard = none) (s x : Operand)
    (hop : o.op = .call { callee := .builtin .append, args := #[s, x], argTypes := #[39, 39] })
    (B b : Nat) (v : Value) (L : List Pt) (hs : a.eval s = v) (hown : OwnS B 112 7 (RPb B b) w v L)
    (y : Pt) (cs : List Value) (g : Nat) (hx : a.eval x = .slice (some ⟨g, 0, none⟩) 1 1) (hg : g = w.heap.size) (hcs : cs.length = 7) (hR1 : RPb B b w cs y) (hL : L.length ≤ 200000) (hB : B ≤ w.heap.size) (hbs : b ≤ w.heap.size)
    (h : ∀ v' w', OwnS B 112 7 (RPb B b) w' v' (L ++ [y]) → Below B w w' → w.heap.size < w'.heap.size → (∀ k, k < w.heap.size → some k ≠ v.ownBlock → w'.heap[k]? = w.heap[k]?) → wpList Tryz.prog ops Q rest (a.put o.dst v') w') :
    wpList Tryz.prog ops Q (o :: rest) a (w.alloc (.cells cs.toArray 112)) := by
  subst hg
  have hb0 : Below w.heap.size w (w.alloc (.cells cs.toArray 112)) := (Below.refl _ _).alloc (Nat.le_refl _) _
  have hcomb : ∀ w', (w.alloc (.cells cs.toArray 112)).grownBy w' v.ownBlock → ∀ k, k < w.heap.size → some k ≠ v.ownBlock → w'.heap[k]? = w.heap[k]? := fun w' hg k hk hne => by
    rw [hg.block k (by simp; omega) hne]; exact hb0.block k hk
  have hk1 : ∀ (cs' : List Value) (x' : Pt), RPb B b w cs' x' → RPb B b (w.alloc (.cells cs.toArray 112)) cs' x' := fun cs' x' r => r.keep (Nat.le_refl _) fun k hk _ => hb0.block k (by omega)
  have hown1 := hown.below hb0 (fun cs' x' _ r => hk1 cs' x' r)
  refine wpList_app hgd s x 39 hop B 112 7 80 _ elPart (RPb B b) v L [y] hs hown1 (fun _ => True) _ hx
    (RdS.one cs 112 hcs trivial (hk1 _ _ hR1)) (RPb_one B b) (by unfold maxLen; simp; omega) (by simp; omega) (by simp; omega) ?_ ?_
  · intro w' hg cs' x' _ r
    exact r.keep (Nat.le_refl _) fun k hk hT => hg.block k (by simp; omega) (by obtain ⟨xs, fr, hT⟩ := hT; exact hown1.ne hT (by decide))
  · intro v' w' hown' hg hb
    exact h v' w' hown' (((Below.refl _ _).alloc hB _).trans hb) (by have := hg.size; simp at this; omega) (hcomb w' hg)

set_option maxRecDepth 100000 in
set_option maxHeartbeats 2000000 in
theorem flush_any {B gp go gc : Nat} {w : World} {pv ov : Value} {out : List Pt} {ps : List It} {c b : Nat} (h : Td B gp go gc w pv ov out ps c b) (hge : B ≤ gp ∧ B ≤ go ∧ B ≤ gc) (hl : out.length ≤ 100000) :
    Calls Tryz.prog 121 #[.pointer (some ⟨gp, 0, none⟩), .pointer (some ⟨go, 0, none⟩), .pointer (some ⟨gc, 0, none⟩)] w fun e w' => e = .returned (.tuple #[]) ∧ (∃ ov' b', Td B gp go gc w' (.slice none 0 0) ov' (flush out ps c) [] 0 b') ∧ Below B w w' ∧ ∀ k, Ty 114 w k → w'.heap[k]? = w.heap[k]? := by
  obtain ⟨pa, pc, rfl⟩ := len_nil h.P
  obtain ⟨oa, oc, rfl⟩ := len_nil h.t.O
  obtain ⟨c0, c1, c2, z0, z1, z2⟩ := h.t.cells
  obtain ⟨l0, l1, l2⟩ := h.t.lt
  have hres := Lib.hid (show flush out ps c = out ++ (if ps = [] then [] else [putP ps]) ++ (if c = 0 then [] else [cutP c]) from rfl)
  have hBs : B ≤ w.heap.size := by have := h.t.hs; have := h.t.hB; omega
  go_enter Tryz.func121, Tryz.ntmps121
  by_cases hp : ps = []
  · subst hp
    by_cases hc : c = 0
    · subst hc
      have H0 := Lib.hid h.t
      obtain ⟨f1, f2⟩ := H0.out.after (.slice none 0 0)
      clear h
      have T := Lib.hid (H0.out.reset)
      have KK := Lib.hid (fun k (hT : Ty 114 w k) => H0.out.keepR hT)
      have hB1 := Lib.hid ((((Below.refl B w).setCell (p := ⟨gp, 0, none⟩) hge.1 (.slice none 0 0)).setCell (p := ⟨gc, 0, none⟩) hge.2.2 (.int .i64 0)))
      go_wp2
      go_end0
      exact ⟨rfl, ⟨_, _, by rw [hres.out]; simpa using T.out⟩, hB1.out, KK.out⟩
    · have hc0 : 0 < c := by omega
      have H0 := Lib.hid h.t
      have hO1 := Lib.hid h.t.raise.O
      have hres1 := hres.out.trans (by rw [if_neg hc]; simp : _ = out ++ [cutP c])
      clear h hc hres
      obtain ⟨o1, q1⟩ : ∃ o, out ++ [cutP c] = o := ⟨_, rfl⟩
      rw [q1] at hres1
      have hl1 : o1.length ≤ 100000 + 1 := by rw [← q1]; simp; omega
      have E1 := Lib.hid q1
      clear q1
      have hres2 := Lib.hid hres1
      clear hres1
      go_wp2_with (at_builtin; refine wpList_appB rfl (.tmp 13) (.tmp 16) rfl B w.heap.size _ (out) rfl hO1.out (cutP c) [.int .i64 3, .int .i64 c, .slice none 0 0, .int .i64 0, .int .i64 0, .bool false, .string ⟨#[]⟩] _ rfl (by first | rfl | simp) rfl (⟨.slice none 0 0, rfl, RdS.nil⟩ : RPb B _ _ _ (cutP c)) (by first | omega | (simp; omega)) hBs (Nat.le_refl _) ?_; intro v1 w1 ho1 hb1 hz1 hk1; rw [E1.out] at ho1; obtain ⟨oa1, oc1, rfl⟩ := len_nil ho1; have H1 := Lib.hid (H0.out.grow (b' := w.heap.size) hBs (Nat.le_of_lt hz1) hk1 ho1); have KA1 := Lib.hid (fun k (hT : Ty 114 w k) => H0.out.keepA hk1 (.slice oa1 o1.length oc1) hT); have k0 := (hk1 go H0.out.lt.2.1 (H0.out.O.ne H0.out.ho (by decide))).trans H0.out.ho; have k1 := fz1 k0; have k2 := cell1 k0; obtain ⟨m0, m1, m2, y0, y1, y2⟩ := H1.out.cells; have hb1' := Lib.hid (((Below.refl B w).trans hb1).setCell (p := ⟨go, 0, none⟩) hge.2.1 (.slice oa1 o1.length oc1)); obtain ⟨f1, f2⟩ := H1.out.after (.slice none 0 0); have hO1 := Lib.hid H1.out.raise.O; have hBs1 : B ≤ (w1.setCell ⟨go, 0, none⟩ (.slice oa1 o1.length oc1)).heap.size := (by have := H1.out.hs; have := H1.out.hB; omega); clear k0 ho1 hk1)
      have T := Lib.hid (H1.out.reset)
      have KK := Lib.hid (fun k (hT : Ty 114 w k) => (H1.out.keepR (tyto hT (KA1.out k hT))).trans (KA1.out k hT))
      have hB1 := Lib.hid (((hb1'.out.setCell (p := ⟨gp, 0, none⟩) hge.1 (.slice none 0 0)).setCell (p := ⟨gc, 0, none⟩) hge.2.2 (.int .i64 0)))
      go_wp2
      go_end0
      exact ⟨rfl, ⟨_, _, by rw [hres2.out]; simpa using T.out⟩, hB1.out, KK.out⟩
  · have hp1 : 0 < ps.length := List.length_pos_iff.2 hp
    have HP := Lib.hid (h.its (brf w))
    have H0 := Lib.hid h.t
    have hO0 := Lib.hid h.t.raise.O
    clear h
    by_cases hc : c = 0
    · subst hc
      have hres1 := hres.out.trans (by rw [if_neg hp]; simp : _ = out ++ [putP ps])
      clear hp hres
      obtain ⟨o1, q1⟩ : ∃ o, out ++ [putP ps] = o := ⟨_, rfl⟩
      rw [q1] at hres1
      have hl1 : o1.length ≤ 100000 + 1 := by rw [← q1]; simp; omega
      have E1 := Lib.hid q1
      clear q1
      have hres2 := Lib.hid hres1
      clear hres1
      go_wp2_with (at_builtin; refine wpList_appB rfl (.tmp 6) (.tmp 9) rfl B w.heap.size _ (out) rfl hO0.out (putP ps) [.int .i64 2, .int .i64 0, .slice pa ps.length pc, .int .i64 0, .int .i64 0, .bool false, .string ⟨#[]⟩] _ rfl (by first | rfl | simp) rfl HP.out (by first | omega | (simp; omega)) hBs (Nat.le_refl _) ?_; intro v1 w1 ho1 hb1 hz1 hk1; rw [E1.out] at ho1; obtain ⟨oa1, oc1, rfl⟩ := len_nil ho1; have H1 := Lib.hid (H0.out.grow (b' := w.heap.size) hBs (Nat.le_of_lt hz1) hk1 ho1); have KA1 := Lib.hid (fun k (hT : Ty 114 w k) => H0.out.keepA hk1 (.slice oa1 o1.length oc1) hT); have k0 := (hk1 go H0.out.lt.2.1 (H0.out.O.ne H0.out.ho (by decide))).trans H0.out.ho; have k1 := fz1 k0; have k2 := cell1 k0; obtain ⟨m0, m1, m2, y0, y1, y2⟩ := H1.out.cells; have hb1' := Lib.hid (((Below.refl B w).trans hb1).setCell (p := ⟨go, 0, none⟩) hge.2.1 (.slice oa1 o1.length oc1)); obtain ⟨f1, f2⟩ := H1.out.after (.slice none 0 0); have hO1 := Lib.hid H1.out.raise.O; have hBs1 : B ≤ (w1.setCell ⟨go, 0, none⟩ (.slice oa1 o1.length oc1)).heap.size := (by have := H1.out.hs; have := H1.out.hB; omega); clear k0 ho1 hk1)
      have T := Lib.hid (H1.out.reset)
      have KK := Lib.hid (fun k (hT : Ty 114 w k) => (H1.out.keepR (tyto hT (KA1.out k hT))).trans (KA1.out k hT))
      have hB1 := Lib.hid (((hb1'.out.setCell (p := ⟨gp, 0, none⟩) hge.1 (.slice none 0 0)).setCell (p := ⟨gc, 0, none⟩) hge.2.2 (.int .i64 0)))
      go_wp2
      go_end0
      exact ⟨rfl, ⟨_, _, by rw [hres2.out]; simpa using T.out⟩, hB1.out, KK.out⟩
    · have hc0 : 0 < c := by omega
      have hres1 := hres.out.trans (by rw [if_neg hp, if_neg hc] : _ = (out ++ [putP ps]) ++ [cutP c])
      clear hp hres hc
      obtain ⟨o1, q1⟩ : ∃ o, out ++ [putP ps] = o := ⟨_, rfl⟩
      rw [q1] at hres1
      have hl1 : o1.length ≤ 100000 + 1 := by rw [← q1]; simp; omega
      have E1 := Lib.hid q1
      clear q1
      obtain ⟨o2, q2⟩ : ∃ o, o1 ++ [cutP c] = o := ⟨_, rfl⟩
      rw [q2] at hres1
      have hl2 : o2.length ≤ 100000 + 2 := by rw [← q2]; simp; omega
      have E2 := Lib.hid q2
      clear q2
      have hres2 := Lib.hid hres1
      clear hres1
      go_wp2_with (first | (at_builtin; refine wpList_appB rfl (.tmp 6) (.tmp 9) rfl B w.heap.size _ (out) rfl hO0.out (putP ps) [.int .i64 2, .int .i64 0, .slice pa ps.length pc, .int .i64 0, .int .i64 0, .bool false, .string ⟨#[]⟩] _ rfl (by first | rfl | simp) rfl HP.out (by first | omega | (simp; omega)) hBs (Nat.le_refl _) ?_; intro v1 w1 ho1 hb1 hz1 hk1; rw [E1.out] at ho1; obtain ⟨oa1, oc1, rfl⟩ := len_nil ho1; have H1 := Lib.hid (H0.out.grow (b' := w.heap.size) hBs (Nat.le_of_lt hz1) hk1 ho1); have KA1 := Lib.hid (fun k (hT : Ty 114 w k) => H0.out.keepA hk1 (.slice oa1 o1.length oc1) hT); have k0 := (hk1 go H0.out.lt.2.1 (H0.out.O.ne H0.out.ho (by decide))).trans H0.out.ho; have k1 := fz1 k0; have k2 := cell1 k0; obtain ⟨m0, m1, m2, y0, y1, y2⟩ := H1.out.cells; have hb1' := Lib.hid (((Below.refl B w).trans hb1).setCell (p := ⟨go, 0, none⟩) hge.2.1 (.slice oa1 o1.length oc1)); obtain ⟨f1, f2⟩ := H1.out.after (.slice none 0 0); have hO1 := Lib.hid H1.out.raise.O; have hBs1 : B ≤ (w1.setCell ⟨go, 0, none⟩ (.slice oa1 o1.length oc1)).heap.size := (by have := H1.out.hs; have := H1.out.hB; omega); clear k0 ho1 hk1) | (at_builtin; refine wpList_appB rfl (.tmp 13) (.tmp 16) rfl B (w1.setCell ⟨go, 0, none⟩ (.slice oa1 o1.length oc1)).heap.size _ (o1) rfl hO1.out (cutP c) [.int .i64 3, .int .i64 c, .slice none 0 0, .int .i64 0, .int .i64 0, .bool false, .string ⟨#[]⟩] _ rfl (by first | rfl | simp) rfl (⟨.slice none 0 0, rfl, RdS.nil⟩ : RPb B _ _ _ (cutP c)) (by first | omega | (simp; omega)) hBs1 (Nat.le_refl _) ?_; intro v2 w2 ho2 hb2 hz2 hk2; rw [E2.out] at ho2; obtain ⟨oa2, oc2, rfl⟩ := len_nil ho2; have H2 := Lib.hid (H1.out.grow (b' := (w1.setCell ⟨go, 0, none⟩ (.slice oa1 o1.length oc1)).heap.size) hBs1 (Nat.le_of_lt hz2) hk2 ho2); have KA2 := Lib.hid (fun k (hT : Ty 114 (w1.setCell ⟨go, 0, none⟩ (.slice oa1 o1.length oc1)) k) => H1.out.keepA hk2 (.slice oa2 o2.length oc2) hT); have k0 := (hk2 go H1.out.lt.2.1 (H1.out.O.ne H1.out.ho (by decide))).trans H1.out.ho; have k1 := fz1 k0; have k2 := cell1 k0; obtain ⟨m0, m1, m2, y0, y1, y2⟩ := H2.out.cells; have hb2' := Lib.hid ((hb1'.out.trans hb2).setCell (p := ⟨go, 0, none⟩) hge.2.1 (.slice oa2 o2.length oc2)); obtain ⟨f1, f2⟩ := H2.out.after (.slice none 0 0); have hO2 := Lib.hid H2.out.raise.O; have hBs2 : B ≤ (w2.setCell ⟨go, 0, none⟩ (.slice oa2 o2.length oc2)).heap.size := (by have := H2.out.hs; have := H2.out.hB; omega); clear k0 ho2 hk2))
      have T := Lib.hid (H2.out.reset)
      have KK := Lib.hid (fun k (hT : Ty 114 w k) => (H2.out.keepR (tyto hT ((KA2.out k (tyto hT (KA1.out k hT))).trans (KA1.out k hT)))).trans ((KA2.out k (tyto hT (KA1.out k hT))).trans (KA1.out k hT)))
      have hB1 := Lib.hid (((hb2'.out.setCell (p := ⟨gp, 0, none⟩) hge.1 (.slice none 0 0)).setCell (p := ⟨gc, 0, none⟩) hge.2.2 (.int .i64 0)))
      go_wp2
      go_end0
      exact ⟨rfl, ⟨_, _, by rw [hres2.out]; simpa using T.out⟩, hB1.out, KK.out⟩
end Go.Proofs.YtckdlhgeelhnmaaGreat
/- The references on operations: acts made an operation again: the loop. -/
namespace Go.Proofs.YtckdlhgeelhnmaaGreat
open Go.RowKit Go.Mh

theorem own_ge {α : Type} {b e sz k : Nat} {R : World → List Value → α → Prop} {w : World} {v : Value} {L : List α} (h : OwnS b e sz R w v L) (hk : v.ownBlock = some k) : b ≤ k ∧ k < w.heap.size ∧ Ty e w k := by
  obtain ⟨css, ⟨_, h1⟩, _⟩ := h
  rcases h1 with ⟨rfl, _⟩ | ⟨g', cap, cur, rfl, hg, hh, _⟩
  · simp [Value.ownBlock] at hk
  · simp [Value.ownBlock] at hk
    subst hk
    exact ⟨hg, lt_of_heap hh, cur, _, hh⟩

section
variable {B gp go gc : Nat} {w w' : World} {pv ov : Value} {out : List Pt} {ps : List It} {c b : Nat}
theorem Td.put (h : Td B gp go gc w pv ov out ps c b) (hz : w.heap.size ≤ w'.heap.size) {pv' : Value} {ps' : List It} (hk : ∀ k, k < w.heap.size → some k ≠ pv.ownBlock → w'.heap[k]? = w.heap[k]?) (hP : OwnS b 50 3 RIt w' pv' ps') :
    Td B gp go gc (w'.setCell ⟨gp, 0, none⟩ pv') pv' ov out ps' c b := by
  have k1 := (hk gp (lt_of_heap h.t.hp) (h.P.ne h.t.hp (by decide))).trans h.t.hp
  have k2 := (hk go (lt_of_heap h.t.ho) (h.P.ne h.t.ho (by decide))).trans h.t.ho
  have k3 := (hk gc (lt_of_heap h.t.hc) (h.P.ne h.t.hc (by decide))).trans h.t.hc
  obtain ⟨n1, n2, _⟩ := h.t.ne
  have hO : OwnS B 112 7 (RPb B b) w' ov out := h.t.O.to (fun k hke hkl => hk k hkl (by
    obtain ⟨_, _, xs, fr, e⟩ := own_ge h.t.O hke
    exact h.P.ne e (by decide))) fun _ _ _ r => r.keep (Nat.le_refl _) fun k hkb _ => hk k (by have := h.t.hs; omega) (fun e => by have := (own_ge h.P e.symm).1; omega)
  have hset : ∀ k, k ≠ gp → (w'.setCell ⟨gp, 0, none⟩ pv').heap[k]? = w'.heap[k]? := fun k hn => heap_setCell_other w' _ k _ hn
  refine ⟨⟨?_, (hset go (Ne.symm n1)).trans k2, (hset gc (Ne.symm n2)).trans k3, ?_, by have := h.t.hs; simp; omega, h.t.hB⟩, ?_⟩
  · have := heap_setCell_same w' gp 0 _ _ pv' k1
    simpa using this
  · exact hO.to (fun k hke _ => hset k (fun e => by subst e; exact hO.ne k1 (by decide) hke.symm)) fun _ _ _ r => r.keep (Nat.le_refl _) fun k _ hT => hset k (hT.ne k1 (by decide))
  · exact hP.to (fun k hke _ => hset k (fun e => by subst e; exact hP.ne k1 (by decide) hke.symm)) fun _ _ _ r => r
theorem Td.cut (h : Td B gp go gc w pv ov out ps c b) : Td B gp go gc (w.setCell ⟨gc, 0, none⟩ (.int .i64 ((c : Int) + 1))) pv ov out ps (c + 1) b := by
  obtain ⟨_, n2, n3⟩ := h.t.ne
  have hset : ∀ k, k ≠ gc → (w.setCell ⟨gc, 0, none⟩ (.int .i64 ((c : Int) + 1))).heap[k]? = w.heap[k]? := fun k hn => heap_setCell_other w _ k _ hn
  have c2 := heap_setCell_same w gc 0 _ _ (.int .i64 ((c : Int) + 1)) h.t.hc
  refine ⟨⟨(hset gp n2).trans h.t.hp, (hset go n3).trans h.t.ho, by simpa using c2, ?_, by have := h.t.hs; simpa using this, h.t.hB⟩, ?_⟩
  · exact h.t.O.to (fun k hke _ => hset k (fun e => by subst e; exact h.t.O.ne h.t.hc (by decide) hke.symm)) fun _ _ _ r => r.keep (Nat.le_refl _) fun k _ hT => hset k (hT.ne h.t.hc (by decide))
  · exact h.P.to (fun k hke _ => hset k (fun e => by subst e; exact h.P.ne h.t.hc (by decide) hke.symm)) fun _ _ _ r => r
theorem Td.row (h : Td B gp go gc w pv ov out ps c b) {g i : Nat} {u : Value} (hg : ov.ownBlock = some g) {out' : List Pt} (hO : OwnS B 112 7 (RPb B b) (w.setCell ⟨g, i, none⟩ u) ov out') : Td B gp go gc (w.setCell ⟨g, i, none⟩ u) pv ov out' ps c b := by
  have hset : ∀ k, k ≠ g → (w.setCell ⟨g, i, none⟩ u).heap[k]? = w.heap[k]? := fun k hn => heap_setCell_other w _ k _ hn
  obtain ⟨_, _, xs, fr, e0⟩ := own_ge h.t.O hg
  have ne : ∀ {k T : Nat} {ys : Array Value} {f2 : Nat × Nat}, w.heap[k]? = some (.cells ys T f2) → T ≠ 112 → k ≠ g := fun {k T ys f2} hk hT e => by
    subst e; rw [hk] at e0; simp at e0; exact hT e0.2.1
  refine ⟨⟨(hset gp (ne h.t.hp (by decide))).trans h.t.hp, (hset go (ne h.t.ho (by decide))).trans h.t.ho, (hset gc (ne h.t.hc (by decide))).trans h.t.hc, hO, by have := h.t.hs; simpa using this, h.t.hB⟩, ?_⟩
  exact h.P.to (fun k hke _ => hset k (fun e => by
    obtain ⟨_, _, ys, f2, e2⟩ := own_ge h.P hke
    exact ne e2 (by decide) e)) fun _ _ _ r => r
end

theorem heap3 (w : World) (o1 o2 o3 : Obj) : (((w.alloc o1).alloc o2).alloc o3).heap[w.heap.size]? = some o1 ∧ (((w.alloc o1).alloc o2).alloc o3).heap[w.heap.size + 1]? = some o2 ∧ (((w.alloc o1).alloc o2).alloc o3).heap[w.heap.size + 1 + 1]? = some o3 := by
  have s1 : (w.alloc o1).heap.size = w.heap.size + 1 := by simp
  have s2 : ((w.alloc o1).alloc o2).heap.size = w.heap.size + 1 + 1 := by simp
  have h1 := heap_new w o1
  have h2 := heap_new (w.alloc o1) o2
  have h3 := heap_new ((w.alloc o1).alloc o2) o3
  rw [s1] at h2
  rw [s2] at h3
  refine ⟨?_, ?_, h3⟩
  · rw [(bal (brf ((w.alloc o1).alloc o2)) o3).block _ (by omega), (bal (brf (w.alloc o1)) o2).block _ (by omega)]; exact h1
  · rw [(bal (brf ((w.alloc o1).alloc o2)) o3).block _ (by omega)]; exact h2

theorem rowq {B b : Nat} {w : World} {a : Option Addr} {n cap : Nat} {L : List Pt} (h : OwnS B 112 7 (RPb B b) w (.slice a n cap) L) {j : Nat} {q : Pt} (hj : L[j]? = some q) :
    ∃ g, a = some ⟨g, 0, none⟩ ∧ w.cell? ⟨g, j * 7, none⟩ = some (.int .i64 q.k) ∧ w.cell? ⟨g, j * 7 + 1, none⟩ = some (.int .i64 q.n) ∧ w.cell? ⟨g, j * 7 + 3, none⟩ = some (.int .i64 q.set) ∧ w.cell? ⟨g, j * 7 + 4, none⟩ = some (.int .i64 q.clr) ∧ w.cell? ⟨g, j * 7 + 5, none⟩ = some (.bool q.to) ∧ w.cell? ⟨g, j * 7 + 6, none⟩ = some (str q.l) ∧ w.frozen? ⟨g, j * 7 + 1, none⟩ = false ∧ g < w.heap.size := by
  have hne : L ≠ [] := by rintro rfl; simp at hj
  obtain ⟨g, c1, cur, e1, _, hh⟩ := h.shape hne
  cases e1
  obtain ⟨a', c', e2, _, _, _, hel⟩ := h.rd
  cases e2
  obtain ⟨b', o', cs, e3, _, _, hat, sv, hcs, _⟩ := hel j q hj
  cases e3
  subst hcs
  obtain ⟨x0, x1, _, x3, x4, x5, x6⟩ := hat.seven
  simp only [Nat.zero_add] at x0 x1 x3 x4 x5 x6
  exact ⟨g, rfl, x0, x1, x3, x4, x5, x6, by simp [World.frozen?, hh], lt_of_heap hh⟩

theorem RActs.at {F : Nat → Prop} {w wr : World} {a : Option Addr} {n cap : Nat} {L : List Ac} (h : RActs F w (.slice a n cap) L) (hb : Below w.heap.size w wr) {k : Nat} {x : Ac} (hx : L[k]? = some x) :
    ∃ b o sv, a = some ⟨b, o, none⟩ ∧ E0 sv ∧ b < wr.heap.size ∧ ∀ j v, (acC sv x)[j]? = some v → wr.cell? ⟨b, o + k * 11 + j, none⟩ = some v := by
  obtain ⟨a', cap', e, _, _, _, hel⟩ := h
  cases e
  obtain ⟨b, o, cs, h1, _, hl, hat, sv, hE, hcs⟩ := hel k x hx
  subst hcs
  have hne : acC sv x ≠ [] := by intro e; rw [e] at hl; simp at hl
  have hat' := hat.to (hb.block b (hat.lt hne))
  exact ⟨b, o, sv, h1, hE, hat'.lt hne, hat'⟩
theorem tid_step {l : List Ac} {k : Nat} {x : Ac} (h : l[k]? = some x) (out : List Pt) (ps : List It) (c : Nat) : tid out ps c (l.drop k) = tid out ps c (x :: l.drop (k + 1)) := by
  obtain ⟨hlt, rfl⟩ := List.getElem?_eq_some_iff.1 h
  rw [List.drop_eq_getElem_cons hlt]

/-- How far what is out has come. -/
structure Lim (out : List Pt) (ps : List It) (c k : Nat) : Prop where
  lo : out.length ≤ 3 * k
  lp : ps.length ≤ k
  lc : c ≤ k
  ln : ∀ q ∈ out, 0 ≤ q.n ∧ q.n ≤ (k : Int)
theorem flush_len (out : List Pt) (ps : List It) (c : Nat) : (flush out ps c).length ≤ out.length + 2 := by
  unfold flush
  split <;> split <;> simp
theorem flush_n {out : List Pt} {ps : List It} {c k : Nat} (h : Lim out ps c k) : ∀ q ∈ flush out ps c, 0 ≤ q.n ∧ q.n ≤ (k : Int) := by
  intro q hq
  unfold flush at hq
  simp only [List.mem_append] at hq
  rcases hq with (hq | hq) | hq
  · exact h.ln q hq
  · split at hq
    · simp at hq
    · simp at hq; subst hq; simp [putP]
  · split at hq
    · simp at hq
    · simp at hq; subst hq; have := h.lc; simp [cutP]; omega
theorem Lim.put {out : List Pt} {ps : List It} {c k : Nat} (h : Lim out ps c k) (x : It) : Lim out (ps ++ [x]) c (k + 1) := ⟨by have := h.lo; omega, by have := h.lp; simp; omega, by have := h.lc; omega, fun q hq => by have := h.ln q hq; omega⟩
theorem Lim.cut {out : List Pt} {ps : List It} {c k : Nat} (h : Lim out ps c k) : Lim out ps (c + 1) (k + 1) := ⟨by have := h.lo; omega, by have := h.lp; omega, by have := h.lc; omega, fun q hq => by have := h.ln q hq; omega⟩
theorem Lim.keep {out : List Pt} {ps : List It} {c k : Nat} (h : Lim out ps c k) (d : Kd) : Lim (addK (flush out ps c) d 1) [] 0 (k + 1) := by
  have hl := flush_len out ps c
  have hn := flush_n h
  have ho := h.lo
  refine ⟨?_, by simp, by omega, ?_⟩
  · unfold addK
    split
    · split
      · simp; omega
      · simp; omega
    · simp; omega
  · intro q hq
    unfold addK at hq
    split at hq
    · rename_i q0 hl0
      have hm := List.mem_of_getLast? hl0
      split at hq
      · simp at hq
        rcases hq with hq | rfl
        · have := hn q ((List.dropLast_subset _ hq)); omega
        · have := hn q0 hm; simp; omega
      · simp at hq
        rcases hq with hq | rfl
        · have := hn q hq; omega
        · simp [keepP]; omega
    · simp at hq
      rcases hq with hq | rfl
      · have := hn q hq; omega
      · simp [keepP]; omega

set_option maxRecDepth 100000 in
set_option maxHeartbeats 16000000 in
theorem refTidied_any (F : Nat → Prop) (v : Value) (l : List Ac) (w : World) (h : RActs F w v l) (hmax : l.length ≤ 20000) :
    Calls Tryz.prog 97 #[v] w fun e w' => ∃ r, e = .returned r ∧ ROp (w.heap.size ≤ ·) w' r (tidyA l) ∧ Below w.heap.size w w' := by
  obtain ⟨a, cap, rfl, hn⟩ := RdS.len h
  have H := Lib.hid h
  clear h
  go_enter Tryz.func97, Tryz.ntmps97
  go_wp2
  go_loopw [13] (fun i wr => ∃ (k : Nat) (out : List Pt) (ps : List It) (c : Nat) (pv ov : Value) (b : Nat), k ≤ l.length ∧ i = .int .i64 k ∧ Td w.heap.size (w.heap.size + 1) w.heap.size (w.heap.size + 1 + 1) wr pv ov out ps c b ∧ Hid (tidyA l = tid out ps c (l.drop k)) ∧ Lim out ps c k ∧ Below w.heap.size w wr) (fun i _ => l.length - (intOf i).toNat)
  case atStart =>
    obtain ⟨h1, h2, h3⟩ := heap3 w (.cells #[.slice none 0 0] 39) (.cells #[.slice none 0 0] 33) (.cells #[.int .i64 0] 3)
    exact ⟨0, [], [], 0, .slice none 0 0, .slice none 0 0, w.heap.size + 1 + 1 + 1, Nat.zero_le _, rfl, ⟨⟨h2, h1, h3, OwnS.nil, by simp, by omega⟩, OwnS.nil⟩, Lib.hid rfl, ⟨by simp, by simp, by simp, fun q hq => by simp at hq⟩, bal (bal (bal (brf w) _) _) _⟩
  case round =>
    obtain ⟨k, out, ps, c, pv, ov, b, hk, rfl, hT, hst, hlim, hb⟩ := hrel
    have T := Lib.hid hT
    have HL := Lib.hid hlim
    have hz := hb.size
    obtain ⟨pa, pc, rfl⟩ := len_nil hT.P
    obtain ⟨oa, oc, rfl⟩ := len_nil hT.t.O
    have lm1 := hlim.lo
    have lm2 := hlim.lp
    have lm3 := hlim.lc
    clear hT hlim
    by_cases hlt : k < l.length
    · obtain ⟨x, hx⟩ : ∃ x, l[k]? = some x := ⟨_, List.getElem?_eq_getElem hlt⟩
      obtain ⟨b0, o0, sv, rfl, hE, hb0, hcell⟩ := RActs.at H.out hb hx
      have hs := Lib.hid (hst.out.trans (tid_step hx out ps c))
      clear hst hx
      obtain ⟨sa, sc, rfl, hsm⟩ := hE
      cases x with
      | put x =>
        have c0 : wr.cell? ⟨b0, o0 + k * 11, none⟩ = some _ := hcell 0 _ rfl
        have c1 := hcell 1 _ rfl
        have c2 := hcell 2 _ rfl
        have c3 := hcell 3 _ rfl
        have c4 := hcell 4 _ rfl
        have c5 := hcell 5 _ rfl
        have c6 := hcell 6 _ rfl
        have c7 := hcell 7 _ rfl
        have c8 := hcell 8 _ rfl
        have c9 := hcell 9 _ rfl
        have c10 := hcell 10 _ rfl
        clear hcell
        have T1 := Lib.hid (T.out.below (bal (brf wr) (.cells #[.int .i64 2, .int .u8 x.c.toNat, .int .i64 x.m, str x.l, .int .i64 0, .int .i64 0, .slice none 0 0, .int .i64 0, .int .i64 0, .bool false, .string ⟨#[]⟩] 114)))
        obtain ⟨m0, m1, m2, y0, y1, y2⟩ := T1.out.t.cells
        have hbs := T.out.t.hs
        have hbB := T.out.t.hB
        obtain ⟨ps1, q1⟩ : ∃ o, ps ++ [x] = o := ⟨_, rfl⟩
        have hs1 := Lib.hid (hs.out.trans (by rw [← q1]; rfl : _ = tid out ps1 c (l.drop (k + 1))))
        have HL1 := Lib.hid (show Lim out ps1 c (k + 1) by rw [← q1]; exact HL.out.put x)
        have E1 := Lib.hid q1
        clear q1 hs HL
        go_wp2_with (at_builtin; refine wpList_app1 rfl (.tmp 93) (.tmp 96) 33 rfl b 50 3 32 _ elItems RIt _ ps rfl T1.out.P x [.int .u8 x.c.toNat, .int .i64 x.m, str x.l] 50 _ rfl (by first | rfl | simp) rfl (fun _ _ => rfl) RIt_one (by unfold maxLen; omega) (by omega) (by first | omega | (simp; omega)) (fun _ _ _ _ _ r => r) ?_; intro v2 w2 ho2 hb2 hz2 hk2; rw [E1.out] at ho2; obtain ⟨pa2, pc2, rfl⟩ := len_nil ho2; have T2 := Lib.hid (T1.out.put (Nat.le_of_lt hz2) hk2 ho2); have k0 := (hk2 (w.heap.size + 1) T1.out.t.lt.1 (T1.out.P.ne T1.out.t.hp (by decide))).trans T1.out.t.hp; have k1 := fz1 k0; have k2 := cell1 k0; have hB2 := Lib.hid (((bal hb (.cells #[.int .i64 2, .int .u8 x.c.toNat, .int .i64 x.m, str x.l, .int .i64 0, .int .i64 0, .slice none 0 0, .int .i64 0, .int .i64 0, .bool false, .string ⟨#[]⟩] 114)).trans (hb2.mono hbB)).setCell (p := ⟨w.heap.size + 1, 0, none⟩) (by simp) (.slice pa2 ps1.length pc2)); clear k0 hk2 ho2)
        go_roundw
        case rel => exact ⟨k + 1, out, ps1, c, _, _, b, by omega, by go_num, T2.out, hs1, HL1.out, hB2.out⟩
        case measure => simp [intOf]; omega
      | cut =>
        have c0 : wr.cell? ⟨b0, o0 + k * 11, none⟩ = some _ := hcell 0 _ rfl
        have c1 := hcell 1 _ rfl
        have c2 := hcell 2 _ rfl
        have c3 := hcell 3 _ rfl
        have c4 := hcell 4 _ rfl
        have c5 := hcell 5 _ rfl
        have c6 := hcell 6 _ rfl
        have c7 := hcell 7 _ rfl
        have c8 := hcell 8 _ rfl
        have c9 := hcell 9 _ rfl
        have c10 := hcell 10 _ rfl
        clear hcell
        have T1 := Lib.hid (T.out.below (bal (brf wr) (.cells #[.int .i64 3, .int .u8 0, .int .i64 0, .string ⟨#[]⟩, .int .i64 3, .int .i64 1, .slice sa 0 sc, .int .i64 0, .int .i64 0, .bool false, str []] 114)))
        obtain ⟨m0, m1, m2, y0, y1, y2⟩ := T1.out.t.cells
        have hs1 := Lib.hid (hs.out : _ = tid out ps (c + 1) (l.drop (k + 1)))
        have HL1 := Lib.hid HL.out.cut
        have hw : wrap64 ((c : Int) + 1) = (c : Int) + 1 := by unfold wrap64; omega
        have T2 := Lib.hid T1.out.cut
        have hB2 := Lib.hid ((bal hb (.cells #[.int .i64 3, .int .u8 0, .int .i64 0, .string ⟨#[]⟩, .int .i64 3, .int .i64 1, .slice sa 0 sc, .int .i64 0, .int .i64 0, .bool false, str []] 114)).setCell (p := ⟨w.heap.size + 1 + 1, 0, none⟩) (by simp; omega) (.int .i64 ((c : Int) + 1)))
        clear hs HL
        go_wp2
        go_roundw
        case rel => exact ⟨k + 1, out, ps, c + 1, _, _, b, by omega, by go_num, T2.out, hs1, HL1.out, hB2.out⟩
        case measure => simp [intOf]; omega
      | keep d =>
        obtain ⟨s, z, t, lk⟩ := d
        have c0 : wr.cell? ⟨b0, o0 + k * 11, none⟩ = some _ := hcell 0 _ rfl
        have c1 := hcell 1 _ rfl
        have c2 := hcell 2 _ rfl
        have c3 := hcell 3 _ rfl
        have c4 := hcell 4 _ rfl
        have c5 := hcell 5 _ rfl
        have c6 := hcell 6 _ rfl
        have c7 := hcell 7 _ rfl
        have c8 := hcell 8 _ rfl
        have c9 := hcell 9 _ rfl
        have c10 := hcell 10 _ rfl
        clear hcell
        have T1 := Lib.hid (T.out.below (bal (brf wr) (.cells #[.int .i64 1, .int .u8 0, .int .i64 0, .string ⟨#[]⟩, .int .i64 1, .int .i64 1, .slice sa 0 sc, .int .i64 s, .int .i64 z, .bool t, str lk] 114)))
        go_wp2_with fail
        refine (flush_any T1.out ⟨by omega, by omega, by omega⟩ (by omega)).mono ?_
        rintro e w2 ⟨rfl, ⟨ov2, b2, hT2⟩, hb2, hkA⟩
        have hbx := (hkA wr.heap.size ⟨_, _, heap_new wr _⟩).trans (heap_new wr _)
        have p4 : w2.cell? ⟨wr.heap.size, 4, none⟩ = some (.int .i64 1) := by unfold World.cell?; rw [hbx]; rfl
        have p5 : w2.cell? ⟨wr.heap.size, 5, none⟩ = some (.int .i64 1) := by unfold World.cell?; rw [hbx]; rfl
        have p6 : w2.cell? ⟨wr.heap.size, 6, none⟩ = some (.slice sa 0 sc) := by unfold World.cell?; rw [hbx]; rfl
        have p7 : w2.cell? ⟨wr.heap.size, 7, none⟩ = some (.int .i64 s) := by unfold World.cell?; rw [hbx]; rfl
        have p8 : w2.cell? ⟨wr.heap.size, 8, none⟩ = some (.int .i64 z) := by unfold World.cell?; rw [hbx]; rfl
        have p9 : w2.cell? ⟨wr.heap.size, 9, none⟩ = some (.bool t) := by unfold World.cell?; rw [hbx]; rfl
        have p10 : w2.cell? ⟨wr.heap.size, 10, none⟩ = some (str lk) := by unfold World.cell?; rw [hbx]; rfl
        have hbxl : wr.heap.size < w2.heap.size := lt_of_heap hbx
        have hB2 := Lib.hid ((bal hb (.cells #[.int .i64 1, .int .u8 0, .int .i64 0, .string ⟨#[]⟩, .int .i64 1, .int .i64 1, .slice sa 0 sc, .int .i64 s, .int .i64 z, .bool t, str lk] 114)).trans hb2)
        have lo1 : (flush out ps c).length ≤ 60010 := by have := flush_len out ps c; omega
        have hs1 := hs.out
        rw [show tid out ps c (.keep ⟨s, z, t, lk⟩ :: l.drop (k + 1)) = tid (addK (flush out ps c) ⟨s, z, t, lk⟩ 1) [] 0 (l.drop (k + 1)) from rfl] at hs1
        have hL1 := HL.out.keep ⟨s, z, t, lk⟩
        have hn1 := flush_n HL.out
        have hk2 : (k : Int) ≤ 20000 := by omega
        clear hs HL T T1 hkA hb2 hbx c0 c1 c2 c3 c4 c5 c6 c7 c8 c9 c10
        generalize flush out ps c = o1 at *
        obtain ⟨oa2, oc2, rfl⟩ := len_nil hT2.t.O
        have T2 := Lib.hid hT2
        obtain ⟨m0, m1, m2, y0, y1, y2⟩ := hT2.t.cells
        have hE : Hid (RPb w.heap.size b2 w2 [.int .i64 1, .int .i64 1, .slice sa 0 sc, .int .i64 s, .int .i64 z, .bool t, str lk] (keepP ⟨s, z, t, lk⟩ 1)) := Lib.hid ⟨_, rfl, E0.its ⟨_, _, rfl, hsm⟩ _ _⟩
        clear hT2
        rcases List.eq_nil_or_concat o1 with he | ⟨o', q, he⟩
        · have hw0 : decide ((1 : Int) ≤ (o1.length : Int)) = false := by rw [he]; rfl
          have he' := Lib.hid he
          clear he
          go_wp2_with fail
          go_quiet (fail)
          have T3 := Lib.hid (T2.out.below (bdrewN (brf w2) nq))
          have hB3 := Lib.hid (bdrewN hB2.out nq)
          have hE3 := Lib.hid (hE.out.keep (w' := w2.drewN nq) (Nat.le_refl _) (fun _ _ _ => rfl))
          have hz3 : w.heap.size ≤ (w2.drewN nq).heap.size := (bdrewN hB2.out nq).size
          replace p4 := ((bdrewN (brf w2) nq).cell (p := ⟨wr.heap.size, 4, none⟩) hbxl).trans p4
          replace p5 := ((bdrewN (brf w2) nq).cell (p := ⟨wr.heap.size, 5, none⟩) hbxl).trans p5
          replace p6 := ((bdrewN (brf w2) nq).cell (p := ⟨wr.heap.size, 6, none⟩) hbxl).trans p6
          replace p7 := ((bdrewN (brf w2) nq).cell (p := ⟨wr.heap.size, 7, none⟩) hbxl).trans p7
          replace p8 := ((bdrewN (brf w2) nq).cell (p := ⟨wr.heap.size, 8, none⟩) hbxl).trans p8
          replace p9 := ((bdrewN (brf w2) nq).cell (p := ⟨wr.heap.size, 9, none⟩) hbxl).trans p9
          replace p10 := ((bdrewN (brf w2) nq).cell (p := ⟨wr.heap.size, 10, none⟩) hbxl).trans p10
          clear m0 m1 m2 y0 y1 y2
          obtain ⟨m0, m1, m2, y0, y1, y2⟩ := T3.out.t.cells
          clear T2 hE hbxl hB2
          generalize w2.drewN nq = w3 at *
          have ha2 : addK o1 ⟨s, z, t, lk⟩ 1 = o1 ++ [keepP ⟨s, z, t, lk⟩ 1] := addK_new (out := o1) (k := ⟨s, z, t, lk⟩) 1 (fun q' hq => by rw [he'.out] at hq; simp at hq)
          obtain ⟨o2, q2⟩ : ∃ o, o1 ++ [keepP ⟨s, z, t, lk⟩ 1] = o := ⟨_, rfl⟩
          rw [ha2, q2] at hs1 hL1
          have hs2 := Lib.hid hs1
          have HL2 := Lib.hid hL1
          have E2 := Lib.hid q2
          clear hs1 hL1 q2 ha2
          go_wp2_with (at_builtin; refine wpList_appB rfl (.tmp 86) (.tmp 89) rfl w.heap.size b2 _ o1 rfl T3.out.t.O (keepP ⟨s, z, t, lk⟩ 1) [.int .i64 1, .int .i64 1, .slice sa 0 sc, .int .i64 s, .int .i64 z, .bool t, str lk] _ rfl (by first | rfl | simp) rfl hE3.out (by omega) hz3 T3.out.t.hs ?_; intro v4 w4 ho4 hb4 hz4 hk4; rw [E2.out] at ho4; obtain ⟨oa4, oc4, rfl⟩ := len_nil ho4; have T4 := Lib.hid (T3.out.grow (Nat.le_of_lt hz4) hk4 ho4); have k0 := (hk4 w.heap.size T3.out.t.lt.2.1 (T3.out.t.O.ne T3.out.t.ho (by decide))).trans T3.out.t.ho; have k1 := fz1 k0; have k2 := cell1 k0; have hB4 := Lib.hid ((hB3.out.trans hb4).setCell (p := ⟨w.heap.size, 0, none⟩) (Nat.le_refl _) (.slice oa4 o2.length oc4)); clear k0 hk4 ho4)
          go_roundw
          case rel => exact ⟨k + 1, o2, [], 0, _, _, b2, by omega, by go_num, T4.out, hs2, HL2.out, hB4.out⟩
          case measure => simp [intOf]; omega
        · rw [List.concat_eq_append] at he
          have hpos : 0 < o1.length := by rw [he]; simp
          have hw3 : decide ((1 : Int) ≤ (o1.length : Int)) = true := by simp; omega
          have hlt3 : ((o1.length - 1 : Nat) : Int) < (o1.length : Int) := by omega
          have hlast : o1.getLast? = some q := by rw [he]; simp
          obtain ⟨g, e0, r0, r1, r3, r4, r5, r6, rf, hgl⟩ := rowq T2.out.t.O (j := o1.length - 1) (q := q) (by rw [he]; simp)
          cases e0
          have hqn := hn1 q (by rw [he]; simp)
          have he' := Lib.hid he
          have hlast' := Lib.hid hlast
          clear he
          cases h1 : (q.k == 1) with
          | false =>
            have hns : Hid (¬ (q.k = 1 ∧ q.kd = ⟨s, z, t, lk⟩)) := Lib.hid (fun hc => by rw [hc.1] at h1; simp at h1)
            go_wp2_with fail
            go_quiet (fail)
            clear r0 r1 r3 r4 r5 r6 rf hlast
            have T3 := Lib.hid (T2.out.below (bdrewN (brf w2) nq))
            have hB3 := Lib.hid (bdrewN hB2.out nq)
            have hE3 := Lib.hid (hE.out.keep (w' := w2.drewN nq) (Nat.le_refl _) (fun _ _ _ => rfl))
            have hz3 : w.heap.size ≤ (w2.drewN nq).heap.size := (bdrewN hB2.out nq).size
            replace p4 := ((bdrewN (brf w2) nq).cell (p := ⟨wr.heap.size, 4, none⟩) hbxl).trans p4
            replace p5 := ((bdrewN (brf w2) nq).cell (p := ⟨wr.heap.size, 5, none⟩) hbxl).trans p5
            replace p6 := ((bdrewN (brf w2) nq).cell (p := ⟨wr.heap.size, 6, none⟩) hbxl).trans p6
            replace p7 := ((bdrewN (brf w2) nq).cell (p := ⟨wr.heap.size, 7, none⟩) hbxl).trans p7
            replace p8 := ((bdrewN (brf w2) nq).cell (p := ⟨wr.heap.size, 8, none⟩) hbxl).trans p8
            replace p9 := ((bdrewN (brf w2) nq).cell (p := ⟨wr.heap.size, 9, none⟩) hbxl).trans p9
            replace p10 := ((bdrewN (brf w2) nq).cell (p := ⟨wr.heap.size, 10, none⟩) hbxl).trans p10
            clear m0 m1 m2 y0 y1 y2
            obtain ⟨m0, m1, m2, y0, y1, y2⟩ := T3.out.t.cells
            clear T2 hE hbxl hB2
            generalize w2.drewN nq = w3 at *
            have ha2 : addK o1 ⟨s, z, t, lk⟩ 1 = o1 ++ [keepP ⟨s, z, t, lk⟩ 1] := addK_new (out := o1) (k := ⟨s, z, t, lk⟩) 1 (fun q' hq => by rw [hlast'.out] at hq; cases hq; exact hns.out)
            obtain ⟨o2, q2⟩ : ∃ o, o1 ++ [keepP ⟨s, z, t, lk⟩ 1] = o := ⟨_, rfl⟩
            rw [ha2, q2] at hs1 hL1
            have hs2 := Lib.hid hs1
            have HL2 := Lib.hid hL1
            have E2 := Lib.hid q2
            clear hs1 hL1 q2 ha2
            go_wp2_with (at_builtin; refine wpList_appB rfl (.tmp 86) (.tmp 89) rfl w.heap.size b2 _ o1 rfl T3.out.t.O (keepP ⟨s, z, t, lk⟩ 1) [.int .i64 1, .int .i64 1, .slice sa 0 sc, .int .i64 s, .int .i64 z, .bool t, str lk] _ rfl (by first | rfl | simp) rfl hE3.out (by omega) hz3 T3.out.t.hs ?_; intro v4 w4 ho4 hb4 hz4 hk4; rw [E2.out] at ho4; obtain ⟨oa4, oc4, rfl⟩ := len_nil ho4; have T4 := Lib.hid (T3.out.grow (Nat.le_of_lt hz4) hk4 ho4); have k0 := (hk4 w.heap.size T3.out.t.lt.2.1 (T3.out.t.O.ne T3.out.t.ho (by decide))).trans T3.out.t.ho; have k1 := fz1 k0; have k2 := cell1 k0; have hB4 := Lib.hid ((hB3.out.trans hb4).setCell (p := ⟨w.heap.size, 0, none⟩) (Nat.le_refl _) (.slice oa4 o2.length oc4)); clear k0 hk4 ho4)
            go_roundw
            case rel => exact ⟨k + 1, o2, [], 0, _, _, b2, by omega, by go_num, T4.out, hs2, HL2.out, hB4.out⟩
            case measure => simp [intOf]; omega
          | true =>
            cases h3 : (q.set == s) with
            | false =>
              have hns : Hid (¬ (q.k = 1 ∧ q.kd = ⟨s, z, t, lk⟩)) := Lib.hid (fun hc => by have := congrArg Kd.set hc.2; simp [Pt.kd] at this; simp [this] at h3)
              go_wp2_with fail
              go_quiet (fail)
              clear r0 r1 r3 r4 r5 r6 rf hlast
              have T3 := Lib.hid (T2.out.below (bdrewN (brf w2) nq))
              have hB3 := Lib.hid (bdrewN hB2.out nq)
              have hE3 := Lib.hid (hE.out.keep (w' := w2.drewN nq) (Nat.le_refl _) (fun _ _ _ => rfl))
              have hz3 : w.heap.size ≤ (w2.drewN nq).heap.size := (bdrewN hB2.out nq).size
              replace p4 := ((bdrewN (brf w2) nq).cell (p := ⟨wr.heap.size, 4, none⟩) hbxl).trans p4
              replace p5 := ((bdrewN (brf w2) nq).cell (p := ⟨wr.heap.size, 5, none⟩) hbxl).trans p5
              replace p6 := ((bdrewN (brf w2) nq).cell (p := ⟨wr.heap.size, 6, none⟩) hbxl).trans p6
              replace p7 := ((bdrewN (brf w2) nq).cell (p := ⟨wr.heap.size, 7, none⟩) hbxl).trans p7
              replace p8 := ((bdrewN (brf w2) nq).cell (p := ⟨wr.heap.size, 8, none⟩) hbxl).trans p8
              replace p9 := ((bdrewN (brf w2) nq).cell (p := ⟨wr.heap.size, 9, none⟩) hbxl).trans p9
              replace p10 := ((bdrewN (brf w2) nq).cell (p := ⟨wr.heap.size, 10, none⟩) hbxl).trans p10
              clear m0 m1 m2 y0 y1 y2
              obtain ⟨m0, m1, m2, y0, y1, y2⟩ := T3.out.t.cells
              clear T2 hE hbxl hB2
              generalize w2.drewN nq = w3 at *
              have ha2 : addK o1 ⟨s, z, t, lk⟩ 1 = o1 ++ [keepP ⟨s, z, t, lk⟩ 1] := addK_new (out := o1) (k := ⟨s, z, t, lk⟩) 1 (fun q' hq => by rw [hlast'.out] at hq; cases hq; exact hns.out)
              obtain ⟨o2, q2⟩ : ∃ o, o1 ++ [keepP ⟨s, z, t, lk⟩ 1] = o := ⟨_, rfl⟩
              rw [ha2, q2] at hs1 hL1
              have hs2 := Lib.hid hs1
              have HL2 := Lib.hid hL1
              have E2 := Lib.hid q2
              clear hs1 hL1 q2 ha2
              go_wp2_with (at_builtin; refine wpList_appB rfl (.tmp 86) (.tmp 89) rfl w.heap.size b2 _ o1 rfl T3.out.t.O (keepP ⟨s, z, t, lk⟩ 1) [.int .i64 1, .int .i64 1, .slice sa 0 sc, .int .i64 s, .int .i64 z, .bool t, str lk] _ rfl (by first | rfl | simp) rfl hE3.out (by omega) hz3 T3.out.t.hs ?_; intro v4 w4 ho4 hb4 hz4 hk4; rw [E2.out] at ho4; obtain ⟨oa4, oc4, rfl⟩ := len_nil ho4; have T4 := Lib.hid (T3.out.grow (Nat.le_of_lt hz4) hk4 ho4); have k0 := (hk4 w.heap.size T3.out.t.lt.2.1 (T3.out.t.O.ne T3.out.t.ho (by decide))).trans T3.out.t.ho; have k1 := fz1 k0; have k2 := cell1 k0; have hB4 := Lib.hid ((hB3.out.trans hb4).setCell (p := ⟨w.heap.size, 0, none⟩) (Nat.le_refl _) (.slice oa4 o2.length oc4)); clear k0 hk4 ho4)
              go_roundw
              case rel => exact ⟨k + 1, o2, [], 0, _, _, b2, by omega, by go_num, T4.out, hs2, HL2.out, hB4.out⟩
              case measure => simp [intOf]; omega
            | true =>
              cases h4 : (q.clr == z) with
              | false =>
                have hns : Hid (¬ (q.k = 1 ∧ q.kd = ⟨s, z, t, lk⟩)) := Lib.hid (fun hc => by have := congrArg Kd.clr hc.2; simp [Pt.kd] at this; simp [this] at h4)
                go_wp2_with fail
                go_quiet (fail)
                clear r0 r1 r3 r4 r5 r6 rf hlast
                have T3 := Lib.hid (T2.out.below (bdrewN (brf w2) nq))
                have hB3 := Lib.hid (bdrewN hB2.out nq)
                have hE3 := Lib.hid (hE.out.keep (w' := w2.drewN nq) (Nat.le_refl _) (fun _ _ _ => rfl))
                have hz3 : w.heap.size ≤ (w2.drewN nq).heap.size := (bdrewN hB2.out nq).size
                replace p4 := ((bdrewN (brf w2) nq).cell (p := ⟨wr.heap.size, 4, none⟩) hbxl).trans p4
                replace p5 := ((bdrewN (brf w2) nq).cell (p := ⟨wr.heap.size, 5, none⟩) hbxl).trans p5
                replace p6 := ((bdrewN (brf w2) nq).cell (p := ⟨wr.heap.size, 6, none⟩) hbxl).trans p6
                replace p7 := ((bdrewN (brf w2) nq).cell (p := ⟨wr.heap.size, 7, none⟩) hbxl).trans p7
                replace p8 := ((bdrewN (brf w2) nq).cell (p := ⟨wr.heap.size, 8, none⟩) hbxl).trans p8
                replace p9 := ((bdrewN (brf w2) nq).cell (p := ⟨wr.heap.size, 9, none⟩) hbxl).trans p9
                replace p10 := ((bdrewN (brf w2) nq).cell (p := ⟨wr.heap.size, 10, none⟩) hbxl).trans p10
                clear m0 m1 m2 y0 y1 y2
                obtain ⟨m0, m1, m2, y0, y1, y2⟩ := T3.out.t.cells
                clear T2 hE hbxl hB2
                generalize w2.drewN nq = w3 at *
                have ha2 : addK o1 ⟨s, z, t, lk⟩ 1 = o1 ++ [keepP ⟨s, z, t, lk⟩ 1] := addK_new (out := o1) (k := ⟨s, z, t, lk⟩) 1 (fun q' hq => by rw [hlast'.out] at hq; cases hq; exact hns.out)
                obtain ⟨o2, q2⟩ : ∃ o, o1 ++ [keepP ⟨s, z, t, lk⟩ 1] = o := ⟨_, rfl⟩
                rw [ha2, q2] at hs1 hL1
                have hs2 := Lib.hid hs1
                have HL2 := Lib.hid hL1
                have E2 := Lib.hid q2
                clear hs1 hL1 q2 ha2
                go_wp2_with (at_builtin; refine wpList_appB rfl (.tmp 86) (.tmp 89) rfl w.heap.size b2 _ o1 rfl T3.out.t.O (keepP ⟨s, z, t, lk⟩ 1) [.int .i64 1, .int .i64 1, .slice sa 0 sc, .int .i64 s, .int .i64 z, .bool t, str lk] _ rfl (by first | rfl | simp) rfl hE3.out (by omega) hz3 T3.out.t.hs ?_; intro v4 w4 ho4 hb4 hz4 hk4; rw [E2.out] at ho4; obtain ⟨oa4, oc4, rfl⟩ := len_nil ho4; have T4 := Lib.hid (T3.out.grow (Nat.le_of_lt hz4) hk4 ho4); have k0 := (hk4 w.heap.size T3.out.t.lt.2.1 (T3.out.t.O.ne T3.out.t.ho (by decide))).trans T3.out.t.ho; have k1 := fz1 k0; have k2 := cell1 k0; have hB4 := Lib.hid ((hB3.out.trans hb4).setCell (p := ⟨w.heap.size, 0, none⟩) (Nat.le_refl _) (.slice oa4 o2.length oc4)); clear k0 hk4 ho4)
                go_roundw
                case rel => exact ⟨k + 1, o2, [], 0, _, _, b2, by omega, by go_num, T4.out, hs2, HL2.out, hB4.out⟩
                case measure => simp [intOf]; omega
              | true =>
                cases h5 : (q.to == t) with
                | false =>
                  have hns : Hid (¬ (q.k = 1 ∧ q.kd = ⟨s, z, t, lk⟩)) := Lib.hid (fun hc => by have := congrArg Kd.to hc.2; simp [Pt.kd] at this; simp [this] at h5)
                  go_wp2_with fail
                  go_quiet (fail)
                  clear r0 r1 r3 r4 r5 r6 rf hlast
                  have T3 := Lib.hid (T2.out.below (bdrewN (brf w2) nq))
                  have hB3 := Lib.hid (bdrewN hB2.out nq)
                  have hE3 := Lib.hid (hE.out.keep (w' := w2.drewN nq) (Nat.le_refl _) (fun _ _ _ => rfl))
                  have hz3 : w.heap.size ≤ (w2.drewN nq).heap.size := (bdrewN hB2.out nq).size
                  replace p4 := ((bdrewN (brf w2) nq).cell (p := ⟨wr.heap.size, 4, none⟩) hbxl).trans p4
                  replace p5 := ((bdrewN (brf w2) nq).cell (p := ⟨wr.heap.size, 5, none⟩) hbxl).trans p5
                  replace p6 := ((bdrewN (brf w2) nq).cell (p := ⟨wr.heap.size, 6, none⟩) hbxl).trans p6
                  replace p7 := ((bdrewN (brf w2) nq).cell (p := ⟨wr.heap.size, 7, none⟩) hbxl).trans p7
                  replace p8 := ((bdrewN (brf w2) nq).cell (p := ⟨wr.heap.size, 8, none⟩) hbxl).trans p8
                  replace p9 := ((bdrewN (brf w2) nq).cell (p := ⟨wr.heap.size, 9, none⟩) hbxl).trans p9
                  replace p10 := ((bdrewN (brf w2) nq).cell (p := ⟨wr.heap.size, 10, none⟩) hbxl).trans p10
                  clear m0 m1 m2 y0 y1 y2
                  obtain ⟨m0, m1, m2, y0, y1, y2⟩ := T3.out.t.cells
                  clear T2 hE hbxl hB2
                  generalize w2.drewN nq = w3 at *
                  have ha2 : addK o1 ⟨s, z, t, lk⟩ 1 = o1 ++ [keepP ⟨s, z, t, lk⟩ 1] := addK_new (out := o1) (k := ⟨s, z, t, lk⟩) 1 (fun q' hq => by rw [hlast'.out] at hq; cases hq; exact hns.out)
                  obtain ⟨o2, q2⟩ : ∃ o, o1 ++ [keepP ⟨s, z, t, lk⟩ 1] = o := ⟨_, rfl⟩
                  rw [ha2, q2] at hs1 hL1
                  have hs2 := Lib.hid hs1
                  have HL2 := Lib.hid hL1
                  have E2 := Lib.hid q2
                  clear hs1 hL1 q2 ha2
                  go_wp2_with (at_builtin; refine wpList_appB rfl (.tmp 86) (.tmp 89) rfl w.heap.size b2 _ o1 rfl T3.out.t.O (keepP ⟨s, z, t, lk⟩ 1) [.int .i64 1, .int .i64 1, .slice sa 0 sc, .int .i64 s, .int .i64 z, .bool t, str lk] _ rfl (by first | rfl | simp) rfl hE3.out (by omega) hz3 T3.out.t.hs ?_; intro v4 w4 ho4 hb4 hz4 hk4; rw [E2.out] at ho4; obtain ⟨oa4, oc4, rfl⟩ := len_nil ho4; have T4 := Lib.hid (T3.out.grow (Nat.le_of_lt hz4) hk4 ho4); have k0 := (hk4 w.heap.size T3.out.t.lt.2.1 (T3.out.t.O.ne T3.out.t.ho (by decide))).trans T3.out.t.ho; have k1 := fz1 k0; have k2 := cell1 k0; have hB4 := Lib.hid ((hB3.out.trans hb4).setCell (p := ⟨w.heap.size, 0, none⟩) (Nat.le_refl _) (.slice oa4 o2.length oc4)); clear k0 hk4 ho4)
                  go_roundw
                  case rel => exact ⟨k + 1, o2, [], 0, _, _, b2, by omega, by go_num, T4.out, hs2, HL2.out, hB4.out⟩
                  case measure => simp [intOf]; omega
                | true =>
                  cases h6 : (q.l == lk) with
                  | false =>
                    have hns : Hid (¬ (q.k = 1 ∧ q.kd = ⟨s, z, t, lk⟩)) := Lib.hid (fun hc => by have := congrArg Kd.l hc.2; simp [Pt.kd] at this; simp [this] at h6)
                    go_wp2_with fail
                    go_quiet (fail)
                    clear r0 r1 r3 r4 r5 r6 rf hlast
                    have T3 := Lib.hid (T2.out.below (bdrewN (brf w2) nq))
                    have hB3 := Lib.hid (bdrewN hB2.out nq)
                    have hE3 := Lib.hid (hE.out.keep (w' := w2.drewN nq) (Nat.le_refl _) (fun _ _ _ => rfl))
                    have hz3 : w.heap.size ≤ (w2.drewN nq).heap.size := (bdrewN hB2.out nq).size
                    replace p4 := ((bdrewN (brf w2) nq).cell (p := ⟨wr.heap.size, 4, none⟩) hbxl).trans p4
                    replace p5 := ((bdrewN (brf w2) nq).cell (p := ⟨wr.heap.size, 5, none⟩) hbxl).trans p5
                    replace p6 := ((bdrewN (brf w2) nq).cell (p := ⟨wr.heap.size, 6, none⟩) hbxl).trans p6
                    replace p7 := ((bdrewN (brf w2) nq).cell (p := ⟨wr.heap.size, 7, none⟩) hbxl).trans p7
                    replace p8 := ((bdrewN (brf w2) nq).cell (p := ⟨wr.heap.size, 8, none⟩) hbxl).trans p8
                    replace p9 := ((bdrewN (brf w2) nq).cell (p := ⟨wr.heap.size, 9, none⟩) hbxl).trans p9
                    replace p10 := ((bdrewN (brf w2) nq).cell (p := ⟨wr.heap.size, 10, none⟩) hbxl).trans p10
                    clear m0 m1 m2 y0 y1 y2
                    obtain ⟨m0, m1, m2, y0, y1, y2⟩ := T3.out.t.cells
                    clear T2 hE hbxl hB2
                    generalize w2.drewN nq = w3 at *
                    have ha2 : addK o1 ⟨s, z, t, lk⟩ 1 = o1 ++ [keepP ⟨s, z, t, lk⟩ 1] := addK_new (out := o1) (k := ⟨s, z, t, lk⟩) 1 (fun q' hq => by rw [hlast'.out] at hq; cases hq; exact hns.out)
                    obtain ⟨o2, q2⟩ : ∃ o, o1 ++ [keepP ⟨s, z, t, lk⟩ 1] = o := ⟨_, rfl⟩
                    rw [ha2, q2] at hs1 hL1
                    have hs2 := Lib.hid hs1
                    have HL2 := Lib.hid hL1
                    have E2 := Lib.hid q2
                    clear hs1 hL1 q2 ha2
                    go_wp2_with (at_builtin; refine wpList_appB rfl (.tmp 86) (.tmp 89) rfl w.heap.size b2 _ o1 rfl T3.out.t.O (keepP ⟨s, z, t, lk⟩ 1) [.int .i64 1, .int .i64 1, .slice sa 0 sc, .int .i64 s, .int .i64 z, .bool t, str lk] _ rfl (by first | rfl | simp) rfl hE3.out (by omega) hz3 T3.out.t.hs ?_; intro v4 w4 ho4 hb4 hz4 hk4; rw [E2.out] at ho4; obtain ⟨oa4, oc4, rfl⟩ := len_nil ho4; have T4 := Lib.hid (T3.out.grow (Nat.le_of_lt hz4) hk4 ho4); have k0 := (hk4 w.heap.size T3.out.t.lt.2.1 (T3.out.t.O.ne T3.out.t.ho (by decide))).trans T3.out.t.ho; have k1 := fz1 k0; have k2 := cell1 k0; have hB4 := Lib.hid ((hB3.out.trans hb4).setCell (p := ⟨w.heap.size, 0, none⟩) (Nat.le_refl _) (.slice oa4 o2.length oc4)); clear k0 hk4 ho4)
                    go_roundw
                    case rel => exact ⟨k + 1, o2, [], 0, _, _, b2, by omega, by go_num, T4.out, hs2, HL2.out, hB4.out⟩
                    case measure => simp [intOf]; omega
                  | true =>
                    have hsame : Hid (q.k = 1 ∧ q.kd = ⟨s, z, t, lk⟩) := Lib.hid ⟨by simpa using h1, by simp [Pt.kd] at *; exact ⟨h3, h4, h5, h6⟩⟩
                    have hwn : wrap64 (q.n + 1) = q.n + 1 := by unfold wrap64; omega
                    have ha2 : addK o1 ⟨s, z, t, lk⟩ 1 = o1.set (o1.length - 1) { q with n := q.n + 1 } := by
                      rw [addK_some 1 hlast hsame.out, he'.out]
                      simp
                    obtain ⟨o2, q2⟩ : ∃ o, o1.set (o1.length - 1) { q with n := q.n + 1 } = o := ⟨_, rfl⟩
                    have hl2 : o2.length = o1.length := by rw [← q2]; simp
                    rw [ha2, q2] at hs1 hL1
                    have hs2 := Lib.hid hs1
                    have HL2 := Lib.hid hL1
                    have E2 := Lib.hid q2
                    have hjq : Hid (o1[o1.length - 1]? = some q) := Lib.hid (by rw [he'.out]; simp)
                    clear hs1 hL1 q2 ha2 hlast hsame
                    go_wp2_with fail
                    go_quiet (fail)
                    replace r1 := ((bdrewN (brf w2) nq).cell (p := ⟨g, (o1.length - 1) * 7 + 1, none⟩) hgl).trans r1
                    replace rf := ((bdrewN (brf w2) nq).frozen (p := ⟨g, (o1.length - 1) * 7 + 1, none⟩) hgl).trans rf
                    have T3 := Lib.hid (T2.out.below (bdrewN (brf w2) nq))
                    have hB3 := Lib.hid (bdrewN hB2.out nq)
                    have hE3 := Lib.hid (hE.out.keep (w' := w2.drewN nq) (Nat.le_refl _) (fun _ _ _ => rfl))
                    have hz3 : w.heap.size ≤ (w2.drewN nq).heap.size := (bdrewN hB2.out nq).size
                    replace p4 := ((bdrewN (brf w2) nq).cell (p := ⟨wr.heap.size, 4, none⟩) hbxl).trans p4
                    replace p5 := ((bdrewN (brf w2) nq).cell (p := ⟨wr.heap.size, 5, none⟩) hbxl).trans p5
                    replace p6 := ((bdrewN (brf w2) nq).cell (p := ⟨wr.heap.size, 6, none⟩) hbxl).trans p6
                    replace p7 := ((bdrewN (brf w2) nq).cell (p := ⟨wr.heap.size, 7, none⟩) hbxl).trans p7
                    replace p8 := ((bdrewN (brf w2) nq).cell (p := ⟨wr.heap.size, 8, none⟩) hbxl).trans p8
                    replace p9 := ((bdrewN (brf w2) nq).cell (p := ⟨wr.heap.size, 9, none⟩) hbxl).trans p9
                    replace p10 := ((bdrewN (brf w2) nq).cell (p := ⟨wr.heap.size, 10, none⟩) hbxl).trans p10
                    clear m0 m1 m2 y0 y1 y2
                    obtain ⟨m0, m1, m2, y0, y1, y2⟩ := T3.out.t.cells
                    clear T2 hE hbxl hB2
                    generalize w2.drewN nq = w3 at *
                    obtain ⟨_, _, xs0, fr0, hg0⟩ := own_ge T3.out.t.O rfl
                    have hO4 := OwnS.set (R' := RPb w.heap.size b2) T3.out.t.O (k := o1.length - 1) (j := 1) (x := q) (x' := { q with n := q.n + 1 }) hjq.out (by decide) (.int .i64 (q.n + 1)) rfl
                      (fun cs y _ r => r.keep (Nat.le_refl _) fun k _ hT => heap_setCell_other _ _ k _ (hT.ne hg0 (by decide)))
                      (fun cs _ r => by
                        obtain ⟨sv, rfl, hits⟩ := r.keep (w' := w3.setCell ⟨g, (o1.length - 1) * 7 + 1, none⟩ (.int .i64 (q.n + 1))) (Nat.le_refl _) fun k _ hT => heap_setCell_other _ _ k _ (hT.ne hg0 (by decide))
                        exact ⟨sv, rfl, hits⟩)
                    rw [E2.out] at hO4
                    have T4 := Lib.hid (T3.out.row rfl hO4)
                    have hB4 := Lib.hid (hB3.out.setCell (p := ⟨g, (o1.length - 1) * 7 + 1, none⟩) (own_ge T3.out.t.O rfl).1 (.int .i64 (q.n + 1)))
                    clear hO4 hg0 xs0 fr0
                    go_wp2
                    go_roundw
                    case rel => exact ⟨k + 1, o2, [], 0, _, _, b2, by omega, by go_num, T4.out, hs2, HL2.out, hB4.out⟩
                    case measure => simp [intOf]; omega
    · obtain rfl : k = l.length := by omega
      have hfin := Lib.hid (show tidyA l = flush out ps c by rw [hst.out, List.drop_length]; rfl)
      go_wp2_with fail
      refine (flush_any T.out ⟨by omega, by omega, by omega⟩ (by omega)).mono ?_
      rintro e w2 ⟨rfl, ⟨ov2, b2, hT2⟩, hb2, _⟩
      obtain ⟨oa2, oc2, rfl⟩ := len_nil hT2.t.O
      obtain ⟨m0, m1, m2, y0, y1, y2⟩ := hT2.t.cells
      have hO := Lib.hid (RdS.to (F' := (w.heap.size ≤ ·)) hT2.t.O.rd (by decide) (fun k hk _ => ⟨hk, rfl⟩) (fun cs x _ r => (RPt.to r fun k hk _ => ⟨hk.1, rfl⟩ : RPt (w.heap.size ≤ ·) w2 cs x)))
      clear hT2
      go_wp2
      go_ret
      exact ⟨_, rfl, by rw [hfin.out]; exact hO.out, hb.trans hb2⟩
end Go.Proofs.YtckdlhgeelhnmaaGreat
