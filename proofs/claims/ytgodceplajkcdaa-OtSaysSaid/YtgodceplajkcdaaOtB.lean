/- Package ot: the reader: more, take. -/
import Derived.Test.YtgodceplajkcdaaMemA
import Derived.Test.YtgodceplajkcdaaOpA
import Derived.Test.YtgodceplajkcdaaTac
import Derived.BigRegion
import Derived.RegionTactic
import Derived.IntWalk
namespace Go.Proofs.Ytgodceplajkcdaa
open Go.RowKit Go.Mh

theorem moreR_full {p : Pt} {o : List Pt} (h : ¬ (p.n = 0 ∧ p.its = [])) : moreR p o = (true, p, o) := by simp only [moreR, if_neg h]
theorem moreR_nil {p : Pt} (h : p.n = 0 ∧ p.its = []) : moreR p [] = (false, p, []) := by simp only [moreR, if_pos h]
theorem moreR_cons {p x : Pt} {o : List Pt} (h : p.n = 0 ∧ p.its = []) : moreR p (x :: o) = (true, x, o) := by simp only [moreR, if_pos h]

/-- A reader that has something left. -/
theorem rmore_full (F : Nat → Prop) (w0 w : World) (g : Nat) (p : Pt) (o : List Pt) (h : Rdr 133 F w0 w g p o) (hn : ¬ (p.n = 0 ∧ p.its = [])) :
    Calls Try.prog 100 #[.pointer (some ⟨g, 0, none⟩)] w fun e w' => e = .returned (.bool true) ∧ w = w' := by
  obtain ⟨ov, sv, hb, ho, hi⟩ := h
  obtain ⟨sa, sc, rfl, _⟩ := RdS.len hi
  obtain ⟨c0, c1, c2, c3, c4, c5, c6, c7⟩ := P8.of hb
  have e : (p.n == 0) = false ∨ ((p.n == 0) = true ∧ ((p.its.length : Int) == 0) = false) := by
    cases e : p.n == 0 with
    | false => exact Or.inl rfl
    | true => exact Or.inr ⟨rfl, by simp at e; simp; exact fun h => hn ⟨e, h⟩⟩
  clear hn hb ho hi
  rcases e with e | ⟨e, e2⟩
  all_goals
    go_enter Try.func100, Try.ntmps100
    go_wp2
    go_loop [] (True) (0)
    case atStart => trivial
    case round =>
      go_wp2
      go_ret
      exact ⟨rfl, rfl⟩

/-- A reader that has nothing left, and nothing behind. -/
theorem rmore_nil (F : Nat → Prop) (w0 w : World) (g : Nat) (p : Pt) (h : Rdr 133 F w0 w g p []) (hn : p.n = 0 ∧ p.its = []) :
    Calls Try.prog 100 #[.pointer (some ⟨g, 0, none⟩)] w fun e w' => e = .returned (.bool false) ∧ w = w' := by
  obtain ⟨ov, sv, hb, ho, hi⟩ := h
  obtain ⟨k, n, its, set, clr, to, l⟩ := p
  obtain ⟨rfl, rfl⟩ := hn
  obtain ⟨sa, sc, rfl, _⟩ := RdS.len hi
  obtain ⟨oa, oc, rfl, _⟩ := RdS.len ho
  obtain ⟨c0, c1, c2, c3, c4, c5, c6, c7⟩ := P8.of hb
  clear hb ho hi
  go_enter Try.func100, Try.ntmps100
  go_wp2
  go_loop [] (True) (0)
  case atStart => trivial
  case round =>
    go_wp2
    go_ret
    exact ⟨rfl, rfl⟩

set_option maxRecDepth 100000 in
set_option maxHeartbeats 2000000 in
/-- A reader that goes on to its next part. -/
theorem rmore_next (F : Nat → Prop) (w0 w : World) (g : Nat) (p x : Pt) (o : List Pt) (h : Rdr 133 F w0 w g p (x :: o)) (hs : St F w0 w) (hn : p.n = 0 ∧ p.its = []) (hx : ¬ (x.n = 0 ∧ x.its = [])) :
    Calls Try.prog 100 #[.pointer (some ⟨g, 0, none⟩)] w fun e w' => e = .returned (.bool true) ∧ Rdr 133 F w0 w' g x o ∧ Stays g w w' := by
  have hlt := h.lt
  have hlen := Lib.hid h.len
  obtain ⟨ov, sv, hb, ho, hi⟩ := h
  obtain ⟨k, n, its, set, clr, to, l⟩ := p
  obtain ⟨rfl, rfl⟩ := hn
  obtain ⟨sa, sc, rfl, _⟩ := RdS.len hi
  obtain ⟨oa, oc, rfl, hol⟩ := RdS.len ho
  have hb' := Lib.hid hb
  obtain ⟨b, o1, cs, eo, hFb, _, hat, tv, hR, hits⟩ := (id ho : ROp F w0 _ (x :: o)).el 0 x rfl
  subst hR eo
  obtain ⟨ta, tc, rfl, _⟩ := RdS.len hits
  have hcap := RdS.capLe ho
  obtain ⟨d0, d1, d2, d3, d4, d5, d6⟩ := (hat.to (hs b hFb)).seven
  simp only [Nat.zero_mul, Nat.add_zero] at d0 d1 d2 d3 d4 d5 d6
  obtain ⟨c0, c1, c2, c3, c4, c5, c6, c7⟩ := P8.of hb
  have hfz : ∀ i, w.frozen? ⟨g, i, none⟩ = false := fun i => Lib.frozen_of_heap hb _
  have ho' := Lib.hid ho
  have hi' := Lib.hid hits
  have hs' := Lib.hid hs
  simp only [List.length_cons] at hcap hol c0
  clear hb ho hi hits hat hs hFb
  go_enter Try.func100, Try.ntmps100
  go_wp2
  go_loopw [] (fun wr => wr = w ∨ (Rdr 133 F w0 wr g x o ∧ Stays g w wr)) (fun wr => cellLen (wr.cell? ⟨g, 0, none⟩))
  case atStart => exact Or.inl rfl
  case round =>
    rcases hrel with rfl | ⟨hr, hst⟩
    · by_cases hc : oc = 1
      · subst hc
        obtain rfl : o = [] := List.eq_nil_of_length_eq_zero (by omega)
        go_wp2
        go_region
        go_wp2
        go_roundw
        case rel =>
          obtain ⟨q1, q2⟩ := set8 hb'.out (.slice (some ⟨b, o1, none⟩) 0 0) (.int .i64 x.k) (.int .i64 x.n) (.slice ta x.its.length tc) (.int .i64 x.set) (.int .i64 x.clr) (.bool x.to) (str x.l)
          exact Or.inr ⟨Rdr.drew ⟨_, _, q1, RdS.nil0, hi'.out⟩, q2.drew⟩
        case measure =>
          obtain ⟨q1, _⟩ := set8 hb'.out (.slice (some ⟨b, o1, none⟩) 0 0) (.int .i64 x.k) (.int .i64 x.n) (.slice ta x.its.length tc) (.int .i64 x.set) (.int .i64 x.clr) (.bool x.to) (str x.l)
          have R := Rdr.len (Rdr.drew (F := F) (w0 := w0) (p := x) (o := []) ⟨_, _, q1, RdS.nil0, hi'.out⟩)
          rw [c0, R]; simp [cellLen]
      · have hc1 : 1 < oc := by omega
        clear hc
        go_wp2
        go_region
        go_wp2
        go_roundw
        case rel =>
          obtain ⟨q1, q2⟩ := set8 hb'.out (.slice (some ⟨b, o1 + 7, none⟩) o.length (oc - 1)) (.int .i64 x.k) (.int .i64 x.n) (.slice ta x.its.length tc) (.int .i64 x.set) (.int .i64 x.clr) (.bool x.to) (str x.l)
          exact Or.inr ⟨Rdr.drew ⟨_, _, q1, ho'.out.tail, hi'.out⟩, q2.drew⟩
        case measure =>
          obtain ⟨q1, _⟩ := set8 hb'.out (.slice (some ⟨b, o1 + 7, none⟩) o.length (oc - 1)) (.int .i64 x.k) (.int .i64 x.n) (.slice ta x.its.length tc) (.int .i64 x.set) (.int .i64 x.clr) (.bool x.to) (str x.l)
          have R := Rdr.len (Rdr.drew (F := F) (w0 := w0) (p := x) (o := o) ⟨_, _, q1, ho'.out.tail, hi'.out⟩)
          rw [c0, R]; simp [cellLen]
    · clear c0 c1 c2 c3 c4 c5 c6 c7 d0 d1 d2 d3 d4 d5 d6 hfz
      have hr' := Lib.hid hr
      have hst' := Lib.hid hst
      obtain ⟨ov, sv, hb, ho, hi⟩ := hr
      obtain ⟨ya, yc, rfl, _⟩ := RdS.len hi
      obtain ⟨c0, c1, c2, c3, c4, c5, c6, c7⟩ := P8.of hb
      clear hb ho hi hst
      have e : (x.n == 0) = false ∨ ((x.n == 0) = true ∧ ((x.its.length : Int) == 0) = false) := by
        cases e : x.n == 0 with
        | false => exact Or.inl rfl
        | true => exact Or.inr ⟨rfl, by simp at e; simp; exact fun h => hx ⟨e, h⟩⟩
      clear hx
      rcases e with e | ⟨e, e2⟩
      all_goals
        go_wp2
        go_ret
        exact ⟨rfl, hr'.out, hst'.out⟩

/-- What 'more' does, in every way. -/
theorem rmore_any (F : Nat → Prop) (w0 w : World) (g : Nat) (p : Pt) (o : List Pt) (h : Rdr 133 F w0 w g p o) (hs : St F w0 w) (ht : ∀ x ∈ o, TP x) :
    Calls Try.prog 100 #[.pointer (some ⟨g, 0, none⟩)] w fun e w' => e = .returned (.bool (moreR p o).1) ∧ Rdr 133 F w0 w' g (moreR p o).2.1 (moreR p o).2.2 ∧ Stays g w w' := by
  have hr : Stays g w w := ⟨fun _ _ _ => rfl, Below.refl _ _⟩
  by_cases hn : p.n = 0 ∧ p.its = []
  · cases o with
    | nil =>
      rw [moreR_nil hn]
      refine (rmore_nil F w0 w g p h hn).mono ?_
      rintro e w' ⟨rfl, rfl⟩
      exact ⟨rfl, h, hr⟩
    | cons x o =>
      rw [moreR_cons hn]
      exact rmore_next F w0 w g p x o h hs hn (ht x (List.mem_cons_self ..)).full
  · rw [moreR_full hn]
    refine (rmore_full F w0 w g p o h hn).mono ?_
    rintro e w' ⟨rfl, rfl⟩
    exact ⟨rfl, h, hr⟩

set_option maxRecDepth 100000 in
set_option maxHeartbeats 2000000 in
/-- So many items are taken of the part that is read. -/
theorem rtake_any (F : Nat → Prop) (w0 w : World) (g : Nat) (p : Pt) (o : List Pt) (n : Int) (h : Rdr 133 F w0 w g p o) (h0 : 0 ≤ n) (h1 : n ≤ p.n) (h2 : p.n ≤ 80) :
    Calls Try.prog 102 #[.pointer (some ⟨g, 0, none⟩), .int .i64 n] w fun e w' => ∃ a c, e = .returned (pv (takeN p n) (.slice a p.its.length c)) ∧ RItems F w0 (.slice a p.its.length c) p.its ∧ Rdr 133 F w0 w' g (restN p n) o ∧ Stays g w w' := by
  have hlt := h.lt
  obtain ⟨ov, sv, hb, ho, hi⟩ := h
  obtain ⟨sa, sc, rfl, _⟩ := RdS.len hi
  have hb' := Lib.hid hb
  have ho' := Lib.hid ho
  have hi' := Lib.hid hi
  obtain ⟨c0, c1, c2, c3, c4, c5, c6, c7⟩ := P8.of hb
  have hfz : ∀ i, w.frozen? ⟨g, i, none⟩ = false := fun i => Lib.frozen_of_heap hb _
  obtain ⟨k, m, its, set, clr, to, l⟩ := p
  simp only at h1 h2 hb' hi' c1 c2 c3 c4 c5 c6 c7
  clear hb ho hi
  go_enter Try.func102, Try.ntmps102
  go_wp2
  exact bodyPost_ret (v := pv ⟨k, n, its, set, clr, to, l⟩ (.slice sa its.length sc)) (by simp [results, Try.results102, go_sem]) rfl ⟨_, _, rfl, hi'.out, ⟨_, _, (by have h2 := set_two hb'.out (.int .i64 (m - n)); exact ((bal (bal (brf _) _) _).block g (lt_of_heap h2)).trans h2), ho'.out, hi'.out⟩, Stays.set.trans (Stays.of (bal (bal (brf _) _) _) (Nat.le_of_lt (lt_of_heap (set_two hb'.out (.int .i64 (m - n))))))⟩
end Go.Proofs.Ytgodceplajkcdaa
