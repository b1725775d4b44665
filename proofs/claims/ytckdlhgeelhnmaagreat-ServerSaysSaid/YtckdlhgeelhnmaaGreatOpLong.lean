/- Package op: Long: how many items an operation is for, and how many there are behind it. -/
import Derived.Test.YtckdlhgeelhnmaaGreatOpA
import Derived.Test.YtckdlhgeelhnmaaGreatMemA
namespace Go.Proofs.YtckdlhgeelhnmaaGreat
open Go.RowKit Go.Mh

theorem longs_step {L : List Pt} {k : Nat} {p : Pt} (f t : Int) (h : L[k]? = some p) : longs f t (L.drop k) =
    if p.k = 1 then longs (w64 (f + p.n)) (w64 (t + p.n)) (L.drop (k + 1)) else if p.k = 2 then longs f (w64 (t + p.its.length)) (L.drop (k + 1)) else if p.k = 3 then longs (w64 (f + p.n)) t (L.drop (k + 1)) else longs f t (L.drop (k + 1)) := by
  obtain ⟨hlt, rfl⟩ := List.getElem?_eq_some_iff.1 h
  rw [List.drop_eq_getElem_cons hlt]
  rfl

theorem w64_wrap (n : Int) : w64 n = wrap64 n := by unfold w64 wrap64; simp [IntKind.wrap, IntKind.bits, IntKind.signed]; split <;> omega

set_option maxRecDepth 100000 in
set_option maxHeartbeats 1000000 in
theorem opLong_any (G : Nat → Prop) (u : Value) (L : List Pt) (w : World) (g : ROp G w u L) :
    Calls Tryz.prog 83 #[u] w fun e w' => e = .returned (.tuple #[.int .i64 (longs 0 0 L).1, .int .i64 (longs 0 0 L).2]) ∧ Below w.heap.size w w' := by
  obtain ⟨a', cap', rfl, hn'⟩ := RdS.len g
  have G' := Lib.hid g; clear g
  go_enter Tryz.func83, Tryz.ntmps83
  go_wp2
  go_loopw [2, 3, 8] (fun f t i wr => ∃ (k : Nat) (f' t' : Int), k ≤ L.length ∧ i = .int .i64 k ∧ f = .int .i64 f' ∧ t = .int .i64 t' ∧ Hid (longs 0 0 L = longs f' t' (L.drop k)) ∧ Below w.heap.size w wr) (fun _ _ i _ => L.length - (intOf i).toNat)
  case atStart => exact ⟨0, 0, 0, Nat.zero_le _, rfl, rfl, rfl, Lib.hid rfl, Below.refl _ _⟩
  case round =>
    obtain ⟨k, f, t, hk, rfl, rfl, rfl, hst, hb⟩ := hrel
    by_cases hlt : k < L.length
    · obtain ⟨p, hp⟩ : ∃ x, L[k]? = some x := ⟨_, List.getElem?_eq_getElem hlt⟩
      obtain ⟨b, o, sv, rfl, hits, c0, c1, c2, c3, c4, c5, c6⟩ := ROp.at G'.out hb hp
      obtain ⟨sa, sc, rfl, hsn⟩ := RdS.len hits
      have hbs : b < wr.heap.size := lt_of_cell c0
      have hs := Lib.hid (hst.out.trans (longs_step f t hp))
      clear hits hp hst
      obtain ⟨xk, xn, xits, xset, xclr, xto, xl⟩ := p
      by_cases h1 : xk = 1
      · subst h1
        go_wp2_with fail
        go_quiet (fail)
        go_wp2
        go_roundw
        case rel => exact ⟨k + 1, _, _, by omega, by go_num, rfl, rfl, Lib.hid (by rw [hs.out]; simp [w64_wrap]), bdrewN (bal hb _) _⟩
        case measure => simp [intOf]; omega
      by_cases h2 : xk = 2
      · subst h2
        go_wp2
        go_roundw
        case rel => exact ⟨k + 1, _, _, by omega, by go_num, rfl, rfl, Lib.hid (by rw [hs.out]; simp [w64_wrap]), bal hb _⟩
        case measure => simp [intOf]; omega
      by_cases h3 : xk = 3
      · subst h3
        go_wp2
        go_roundw
        case rel => exact ⟨k + 1, _, _, by omega, by go_num, rfl, rfl, Lib.hid (by rw [hs.out]; simp [w64_wrap]), bal hb _⟩
        case measure => simp [intOf]; omega
      have hs2 := Lib.hid (hs.out.trans (by simp only [if_neg h1, if_neg h2, if_neg h3] : _ = longs f t (L.drop (k + 1))))
      have e1 : (xk == 1) = false := by simpa using h1
      have e2 : (xk == 2) = false := by simpa using h2
      have e3 : (xk == 3) = false := by simpa using h3
      clear h1 h2 h3 hs
      go_wp2
      go_roundw
      case rel => exact ⟨k + 1, _, _, by omega, by go_num, rfl, rfl, hs2, bal hb _⟩
      case measure => simp [intOf]; omega
    · obtain rfl : k = L.length := by omega
      have hfin : Hid (longs 0 0 L = (f, t)) := Lib.hid (by rw [hst.out, List.drop_length]; rfl)
      go_wp2
      go_ret2
      exact ⟨by rw [hfin.out]; rfl, hb⟩
end Go.Proofs.YtckdlhgeelhnmaaGreat
