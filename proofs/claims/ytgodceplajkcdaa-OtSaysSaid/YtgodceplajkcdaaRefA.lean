/- The references on operations: acts, one an item. -/
import Derived.Test.YtgodceplajkcdaaRefM
import Derived.Test.YtgodceplajkcdaaOpDo
import Derived.Test.YtgodceplajkcdaaPlR
namespace Go.Mh
open Go.RowKit
/-- An empty slice. -/
def E0 (sv : Value) : Prop := ∃ a c, sv = .slice a 0 c ∧ c ≤ maxLen ∧ (a = none → c = 0)
theorem E0.its {sv : Value} (h : E0 sv) (F : Nat → Prop) (w : World) : RItems F w sv [] := by
  obtain ⟨a, c, rfl, h1, h2⟩ := h
  exact ⟨a, c, rfl, Nat.zero_le _, h1, h2, fun i x hx => by simp at hx⟩
theorem E0.of {F : Nat → Prop} {w : World} {sv : Value} (h : RItems F w sv []) : E0 sv := by
  obtain ⟨a, c, rfl, _, h1, h2, _⟩ := h
  exact ⟨a, c, rfl, h1, h2⟩
theorem E0.nil : E0 (.slice none 0 0) := ⟨none, 0, rfl, Nat.zero_le _, fun _ => rfl⟩
theorem E0.one {sv : Value} (h : E0 sv) : sv.oneCell' = true := by obtain ⟨a, c, rfl, _⟩ := h; rfl
/-- The cells of an act. -/
def acC (sv : Value) : Ac → List Value
  | .put x => [.int .i64 2, .int .u8 x.c.toNat, .int .i64 x.m, str x.l, .int .i64 0, .int .i64 0, .slice none 0 0, .int .i64 0, .int .i64 0, .bool false, .string ⟨#[]⟩]
  | .keep c => [.int .i64 1, .int .u8 0, .int .i64 0, .string ⟨#[]⟩, .int .i64 1, .int .i64 1, sv, .int .i64 c.set, .int .i64 c.clr, .bool c.to, str c.l]
  | .cut => [.int .i64 3, .int .u8 0, .int .i64 0, .string ⟨#[]⟩, .int .i64 3, .int .i64 1, sv, .int .i64 0, .int .i64 0, .bool false, str []]
def RAc (_ : World) (cs : List Value) (a : Ac) : Prop := ∃ sv, E0 sv ∧ cs = acC sv a
theorem acC_len (sv : Value) (a : Ac) : (acC sv a).length = 11 := by cases a <;> rfl
theorem RAc_one : ∀ (w : World) (cs : List Value) (a : Ac), RAc w cs a → ∀ u ∈ cs, u.oneCell' = true := by
  rintro w _ a ⟨sv, h, rfl⟩ u hu
  have := h.one
  cases a <;> simp [acC] at hu <;> rcases hu with rfl | rfl | rfl | rfl | rfl | rfl | rfl | rfl | rfl | rfl | rfl <;> first | rfl | assumption
abbrev RActs := RdS 11 RAc
theorem RActs.to {F F' : Nat → Prop} {w w' : World} {v : Value} {L : List Ac} (h : RActs F w v L) (hk : Kp F F' w w') : RActs F' w' v L := RdS.to h (by decide) hk fun _ _ _ r => r
end Go.Mh
namespace Go.Proofs.Ytgodceplajkcdaa
open Go.RowKit Go.Mh

theorem elActs : El Try.prog 123 126 11 120 (.agg #[.int .i64 0, .int .u8 0, .int .i64 0, .string ⟨#[]⟩, .int .i64 0, .int .i64 0, .slice none 0 0, .int .i64 0, .int .i64 0, .bool false, .string ⟨#[]⟩]) := ⟨Try.underlying123, by kernel_rfl, rfl, by decide⟩
abbrev OwnA (B : Nat) (w : World) (v : Value) (L : List Ac) : Prop := OwnS B 126 11 RAc w v L
theorem OwnA.to {B : Nat} {w w' : World} {v : Value} {L : List Ac} (h : OwnA B w v L) (hb : Below w.heap.size w w') : OwnA B w' v L := h.below hb fun _ _ _ r => r

theorem acts_len {L : List Pt} (hok : OpOk L) (k : Nat) (hk : k ≤ L.length) : (acts (L.take k)).length ≤ 100 * k := by
  induction k with
  | zero => simp [acts]
  | succ k ih =>
    obtain ⟨p, hp⟩ : ∃ x, L[k]? = some x := ⟨_, List.getElem?_eq_getElem (by omega)⟩
    have := ih (by omega)
    have hm := List.mem_of_getElem? hp
    have h1 := hok.n80 p hm
    have h2 := hok.i80 p hm
    have h3 : (actsP p).length ≤ 100 := by unfold actsP; (repeat' split) <;> simp <;> omega
    rw [acts_take hp, List.length_append]
    omega
theorem take_map_put {l : List It} {j : Nat} {x : It} (h : l[j]? = some x) : (l.take (j + 1)).map Ac.put = (l.take j).map Ac.put ++ [.put x] := by
  rw [List.take_add_one, h]; simp

set_option maxRecDepth 100000 in
set_option maxHeartbeats 4000000 in
theorem refActs_any (G : Nat → Prop) (u : Value) (L : List Pt) (w : World) (g : ROp G w u L) (hok : OpOk L) :
    Calls Try.prog 92 #[u] w fun e w' => ∃ r, e = .returned r ∧ OwnA w.heap.size w' r (acts L) ∧ Below w.heap.size w w' := by
  obtain ⟨a', cap', rfl, hn'⟩ := RdS.len g
  have G' := Lib.hid g; clear g
  have hlen := Lib.hid (fun k => acts_len hok k)
  have hL40 := hok.len
  go_enter Try.func92, Try.ntmps92
  go_wp2
  go_loopw [3, 11] (fun v i wr => ∃ k : Nat, k ≤ L.length ∧ i = .int .i64 k ∧ OwnA w.heap.size wr v (acts (L.take k)) ∧ Below w.heap.size w wr) (fun _ i _ => L.length - (intOf i).toNat)
  case atStart => exact ⟨0, Nat.zero_le _, rfl, OwnS.nil, Below.refl _ _⟩
  case round =>
    obtain ⟨k, hk, rfl, ho, hb⟩ := hrel
    have ho' := Lib.hid ho; clear ho
    by_cases hlt : k < L.length
    · obtain ⟨p, hp⟩ : ∃ x, L[k]? = some x := ⟨_, List.getElem?_eq_getElem hlt⟩
      obtain ⟨b, o, sv, rfl, hits, d0, d1, d2, d3, d4, d5, d6⟩ := ROp.at G'.out (brf w) hp
      have c0 := (hb.cell (lt_of_cell d0)).trans d0; clear d0
      have c1 := (hb.cell (lt_of_cell d1)).trans d1; clear d1
      have c2 := (hb.cell (lt_of_cell d2)).trans d2; clear d2
      have c3 := (hb.cell (lt_of_cell d3)).trans d3; clear d3
      have c4 := (hb.cell (lt_of_cell d4)).trans d4; clear d4
      have c5 := (hb.cell (lt_of_cell d5)).trans d5; clear d5
      have c6 := (hb.cell (lt_of_cell d6)).trans d6; clear d6
      obtain ⟨sa, sc, rfl, hsn⟩ := RdS.len hits
      have hbs : b < wr.heap.size := lt_of_cell c0
      have hI := Lib.hid hits; clear hits
      have htp := Lib.hid (hok.tp p (List.mem_of_getElem? hp))
      have hn80 := hok.n80 p (List.mem_of_getElem? hp)
      have hi80 := hok.i80 p (List.mem_of_getElem? hp)
      have hlk : (acts (L.take k)).length ≤ 4000 := by have := hlen.out k hk; omega
      have hnext := Lib.hid (acts_take hp)
      clear hp
      generalize acts (L.take k) = base at *
      obtain ⟨pk, pn, its, set, clr, to, l⟩ := p
      simp only at hn80 hi80 hsn c0 c1 c2 c3 c4 c5 c6 hI
      go_wp2
      obtain ⟨wo, rfl⟩ : ∃ wo : World, wo = wr := ⟨_, rfl⟩
      go_loopw [3, 18] (fun v j ws => ∃ j' : Nat, j' ≤ its.length ∧ j = .int .i64 j' ∧ OwnA w.heap.size ws v (base ++ (its.take j').map .put) ∧ ws.heap[wo.heap.size]? = some (.cells #[.int .i64 pk, .int .i64 pn, .slice sa its.length sc, .int .i64 set, .int .i64 clr, .bool to, str l] 57 (0, 0)) ∧ Below w.heap.size w ws) (fun _ j _ => its.length - (intOf j).toNat)
      case atStart => exact ⟨0, Nat.zero_le _, rfl, by simpa using OwnA.to ho'.out (bal (brf _) _), heap_new _ _, bal hb _⟩
      case round =>
        obtain ⟨j, hj, rfl, hoi, hbox, hbi⟩ := hrel
        have hoi' := Lib.hid hoi; clear hoi
        have hbox' := Lib.hid hbox; clear hbox
        have hwos : wo.heap.size < wr.heap.size := lt_of_heap hbox'.out
        have hww := hb.size
        obtain ⟨a0, a1, a2, a3, a4, a5, a6⟩ := P7.of hbox'.out
        by_cases hjl : j < its.length
        · obtain ⟨x, hx⟩ : ∃ x, its[j]? = some x := ⟨_, List.getElem?_eq_getElem hjl⟩
          obtain ⟨b3, o3, e3, x0, x1, x2⟩ := RItems.at hI.out hbi hx
          cases e3
          have hb3s : b3 < wr.heap.size := lt_of_cell x0
          have hstep := Lib.hid (take_map_put hx)
          have hll : (base ++ (its.take j).map Ac.put).length ≤ 5000 := by simp; omega
          clear hx
          obtain ⟨xc, xm, xl⟩ := x
          have hoi1 := Lib.hid (OwnA.to hoi'.out (bal (brf wr) (.cells #[.int .u8 xc.toNat, .int .i64 xm, str xl] 42)))
          have hbx1 := Lib.hid (((bal (brf wr) (.cells #[.int .u8 xc.toNat, .int .i64 xm, str xl] 42)).block _ hwos).trans hbox'.out)
          go_wp2_with (at_builtin; refine wpList_app1 rfl (.tmp 22) (.tmp 25) 123 rfl w.heap.size 126 11 120 _ elActs RAc _ (base ++ (its.take j).map Ac.put) rfl hoi1.out (.put ⟨xc, xm, xl⟩) (acC (.slice none 0 0) (.put ⟨xc, xm, xl⟩)) 126 _ rfl (by simp) rfl (fun _ _ => ⟨_, E0.nil, rfl⟩) RAc_one (by unfold maxLen; omega) (by omega) (by simp; omega) (fun _ _ _ _ _ r => r) ?_; intro v2 w2 ho2 hb2 hz2 hkeep)
          have hbox2 := Lib.hid ((hkeep _ (by first | omega | (simp; omega)) (hoi1.out.ne hbx1.out (by decide))).trans hbx1.out)
          have ho2' := Lib.hid ho2
          clear ho2 hkeep
          go_wp2
          go_roundw
          case rel => exact ⟨j + 1, by omega, by go_num, by rw [hstep.out, ← List.append_assoc]; exact ho2'.out, hbox2.out, (bal hbi _).trans hb2⟩
          case measure => simp [intOf]; omega
        · obtain rfl : j = its.length := by omega
          rw [List.take_length] at hoi'
          rcases htp.out with ⟨c, n, hn0, hc, hpe⟩ | ⟨l', hl0, hli, hpe⟩ | ⟨n, hn0, hpe⟩
          · simp only [keepP, Pt.mk.injEq] at hpe
            obtain ⟨rfl, rfl, hi1, rfl, rfl, rfl, rfl⟩ := hpe
            have hi0 := Lib.hid hi1
            clear hi1
            obtain ⟨m, rfl⟩ : ∃ m : Nat, pn = (m : Int) := ⟨pn.toNat, by omega⟩
            obtain ⟨set, clr, to, l⟩ := c
            have hE : E0 (.slice sa its.length sc) := by have h := hI.out; rw [hi0.out] at h ⊢; exact E0.of h
            have hn2 := Lib.hid (hnext.out : acts (L.take (k + 1)) = base ++ List.replicate m (Ac.keep ⟨set, clr, to, l⟩))
            have hb0 : base ++ its.map Ac.put = base := by rw [hi0.out]; simp
            rw [hb0] at hoi'
            clear hnext htp hn0 hb0
            go_wp2
            obtain ⟨wp, rfl⟩ : ∃ wp : World, wp = wr := ⟨_, rfl⟩
            go_loopw [3, 33] (fun v j ws => ∃ j' : Nat, j' ≤ m ∧ j = .int .i64 j' ∧ OwnA w.heap.size ws v (base ++ List.replicate j' (Ac.keep ⟨set, clr, to, l⟩)) ∧ ws.heap[wo.heap.size]? = some (.cells #[.int .i64 1, .int .i64 m, .slice sa its.length sc, .int .i64 set, .int .i64 clr, .bool to, str l] 57 (0, 0)) ∧ Below w.heap.size w ws) (fun _ j _ => m - (intOf j).toNat)
            case atStart => exact ⟨0, Nat.zero_le _, rfl, by simpa using hoi'.out, hbox'.out, hbi⟩
            case round =>
              clear hoi' hbox' a0 a1 a2 a3 a4 a5 a6 hbi hwos
              obtain ⟨j, hj, rfl, hoi, hbox, hbi⟩ := hrel
              have hoi' := Lib.hid hoi; clear hoi
              have hbox' := Lib.hid hbox; clear hbox
              have hwos : wo.heap.size < wr.heap.size := lt_of_heap hbox'.out
              obtain ⟨a0, a1, a2, a3, a4, a5, a6⟩ := P7.of hbox'.out
              by_cases hjl : j < m
              · have hll : (base ++ List.replicate j (Ac.keep ⟨set, clr, to, l⟩)).length ≤ 5000 := by simp; omega
                have hstep : Hid (base ++ List.replicate (j + 1) (Ac.keep ⟨set, clr, to, l⟩) = base ++ List.replicate j (Ac.keep ⟨set, clr, to, l⟩) ++ [(Ac.keep ⟨set, clr, to, l⟩)]) := Lib.hid (by rw [List.append_assoc, List.replicate_succ'])
                have hoi1 := Lib.hid (OwnA.to hoi'.out (bal (brf wr) (.cells #[.int .i64 1, .int .i64 1, .slice sa its.length sc, .int .i64 set, .int .i64 clr, .bool to, str l] 57)))
                have hbx1 := Lib.hid (((bal (brf wr) (.cells #[.int .i64 1, .int .i64 1, .slice sa its.length sc, .int .i64 set, .int .i64 clr, .bool to, str l] 57)).block _ hwos).trans hbox'.out)
                go_wp2_with (at_builtin; refine wpList_app1 rfl (.tmp 37) (.tmp 42) 123 rfl w.heap.size 126 11 120 _ elActs RAc _ (base ++ List.replicate j (Ac.keep ⟨set, clr, to, l⟩)) rfl hoi1.out ((Ac.keep ⟨set, clr, to, l⟩)) (acC (.slice sa its.length sc) ((Ac.keep ⟨set, clr, to, l⟩))) 126 _ rfl (by first | rfl | simp) rfl (fun _ _ => ⟨_, hE, rfl⟩) RAc_one (by unfold maxLen; omega) (by omega) (by first | omega | (simp; omega)) (fun _ _ _ _ _ r => r) ?_; intro v2 w2 ho2 hb2 hz2 hkeep)
                have hbox2 := Lib.hid ((hkeep _ (by first | omega | (simp; omega)) (hoi1.out.ne hbx1.out (by decide))).trans hbx1.out)
                have ho2' := Lib.hid ho2
                clear ho2 hkeep
                go_wp2
                go_roundw
                case rel => exact ⟨j + 1, by omega, by go_num, by rw [hstep.out]; exact ho2'.out, hbox2.out, (bal hbi _).trans hb2⟩
                case measure => simp [intOf]; omega
              · obtain rfl : j = m := by omega
                go_wp2
                go_roundw
                case rel => exact ⟨k + 1, by omega, by go_num, by rw [hn2.out]; exact hoi'.out, hbi⟩
                case measure => simp [intOf]; omega
          · simp only [putP, Pt.mk.injEq] at hpe
            obtain ⟨rfl, rfl, rfl, rfl, rfl, rfl, rfl⟩ := hpe
            have hn2 := Lib.hid (hnext.out.trans (congrArg (base ++ ·) (actsP_put its) : base ++ actsP (putP its) = base ++ its.map Ac.put))
            clear hnext htp hli hl0
            go_wp2
            go_roundw
            case rel => exact ⟨k + 1, by omega, by go_num, by rw [hn2.out]; exact hoi'.out, hbi⟩
            case measure => simp [intOf]; omega
          · simp only [cutP, Pt.mk.injEq] at hpe
            obtain ⟨rfl, rfl, hi1, rfl, rfl, rfl, hl1⟩ := hpe
            have hi0 := Lib.hid hi1
            clear hi1
            have hl0 := Lib.hid hl1
            clear hl1
            obtain ⟨m, rfl⟩ : ∃ m : Nat, pn = (m : Int) := ⟨pn.toNat, by omega⟩
            have hE : E0 (.slice sa its.length sc) := by have h := hI.out; rw [hi0.out] at h ⊢; exact E0.of h
            have hn2 := Lib.hid ((by rw [hnext.out]; rfl) : acts (L.take (k + 1)) = base ++ List.replicate m Ac.cut)
            have hb0 : base ++ its.map Ac.put = base := by rw [hi0.out]; simp
            rw [hb0] at hoi'
            clear hnext htp hn0 hb0
            go_wp2
            obtain ⟨wp, rfl⟩ : ∃ wp : World, wp = wr := ⟨_, rfl⟩
            go_loopw [3, 33] (fun v j ws => ∃ j' : Nat, j' ≤ m ∧ j = .int .i64 j' ∧ OwnA w.heap.size ws v (base ++ List.replicate j' Ac.cut) ∧ ws.heap[wo.heap.size]? = some (.cells #[.int .i64 3, .int .i64 m, .slice sa its.length sc, .int .i64 0, .int .i64 0, .bool false, str l] 57 (0, 0)) ∧ Below w.heap.size w ws) (fun _ j _ => m - (intOf j).toNat)
            case atStart => exact ⟨0, Nat.zero_le _, rfl, by simpa using hoi'.out, hbox'.out, hbi⟩
            case round =>
              clear hoi' hbox' a0 a1 a2 a3 a4 a5 a6 hbi hwos
              obtain ⟨j, hj, rfl, hoi, hbox, hbi⟩ := hrel
              have hoi' := Lib.hid hoi; clear hoi
              have hbox' := Lib.hid hbox; clear hbox
              have hwos : wo.heap.size < wr.heap.size := lt_of_heap hbox'.out
              obtain ⟨a0, a1, a2, a3, a4, a5, a6⟩ := P7.of hbox'.out
              by_cases hjl : j < m
              · have hll : (base ++ List.replicate j Ac.cut).length ≤ 5000 := by simp; omega
                have hstep : Hid (base ++ List.replicate (j + 1) Ac.cut = base ++ List.replicate j Ac.cut ++ [Ac.cut]) := Lib.hid (by rw [List.append_assoc, List.replicate_succ'])
                have hoi1 := Lib.hid (OwnA.to hoi'.out (bal (brf wr) (.cells #[.int .i64 3, .int .i64 1, .slice sa its.length sc, .int .i64 0, .int .i64 0, .bool false, str l] 57)))
                have hbx1 := Lib.hid (((bal (brf wr) (.cells #[.int .i64 3, .int .i64 1, .slice sa its.length sc, .int .i64 0, .int .i64 0, .bool false, str l] 57)).block _ hwos).trans hbox'.out)
                go_wp2_with (at_builtin; refine wpList_app1 rfl (.tmp 37) (.tmp 42) 123 rfl w.heap.size 126 11 120 _ elActs RAc _ (base ++ List.replicate j Ac.cut) rfl hoi1.out (Ac.cut) [.int .i64 3, .int .u8 0, .int .i64 0, .string ⟨#[]⟩, .int .i64 3, .int .i64 1, .slice sa its.length sc, .int .i64 0, .int .i64 0, .bool false, str l] 126 _ rfl (by first | rfl | simp) rfl (fun _ _ => ⟨_, hE, by rw [hl0.out] <;> rfl⟩) RAc_one (by unfold maxLen; omega) (by omega) (by first | omega | (simp; omega)) (fun _ _ _ _ _ r => r) ?_; intro v2 w2 ho2 hb2 hz2 hkeep)
                have hbox2 := Lib.hid ((hkeep _ (by first | omega | (simp; omega)) (hoi1.out.ne hbx1.out (by decide))).trans hbx1.out)
                have ho2' := Lib.hid ho2
                clear ho2 hkeep
                go_wp2
                go_roundw
                case rel => exact ⟨j + 1, by omega, by go_num, by rw [hstep.out]; exact ho2'.out, hbox2.out, (bal hbi _).trans hb2⟩
                case measure => simp [intOf]; omega
              · obtain rfl : j = m := by omega
                go_wp2
                go_roundw
                case rel => exact ⟨k + 1, by omega, by go_num, by rw [hn2.out]; exact hoi'.out, hbi⟩
                case measure => simp [intOf]; omega
    · obtain rfl : k = L.length := by omega
      have hfin : Hid (acts (L.take L.length) = acts L) := Lib.hid (by rw [List.take_length])
      go_wp2
      go_ret
      exact ⟨_, rfl, by rw [← hfin.out]; exact ho'.out, hb⟩
end Go.Proofs.Ytgodceplajkcdaa
