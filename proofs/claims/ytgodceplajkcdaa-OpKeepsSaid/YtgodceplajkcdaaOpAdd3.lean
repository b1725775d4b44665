/- Package op: add, in every way. -/
import Derived.Test.YtgodceplajkcdaaOpAdd2
namespace Go.Proofs.Ytgodceplajkcdaa
open Go.RowKit Go.Mh

theorem add_any (B : Nat) (v : Value) (O : List Pt) (p : Pt) (sv : Value) (w : World) (ho : OwnS B 57 7 (RPtI 42) w v O) (F : Nat → Prop) (hits : RItems F w sv p.its) (hB : B ≤ w.heap.size)
    (hl : p.its.length ≤ 100000) (hO : O.length ≤ 100000) (hn0 : 0 ≤ p.n) (hn1 : p.n ≤ 1000000) (hpi : p.k ≠ 2 → p.its = []) (hq : ∀ q, O.getLast? = some q → alikeP q p = true → p.k ≠ 2 ∧ q.its = [] ∧ 0 ≤ q.n ∧ q.n ≤ 1000000) :
    Calls Try.prog 139 #[v, pv p sv] w fun e w' => ∃ u, e = .returned u ∧ OwnS B 57 7 (RPtI 42) w' u (addP O p) ∧ Below B w w' ∧ Kpt v w w' := by
  by_cases h : (p.k ≠ 2 ∧ p.n = 0) ∨ (p.k = 2 ∧ p.its = [])
  · obtain ⟨a, c, e, _⟩ := RdS.len ho.rd
    obtain ⟨a', c', e', _⟩ := RdS.len hits
    refine (add_skip v O p sv w ⟨a, c, e⟩ ⟨a', c', e'⟩ h).mono ?_
    rintro e w' ⟨rfl, hb⟩
    refine ⟨v, rfl, ?_, hb.mono hB, Kpt.of hb fun _ _ _ => rfl⟩
    rw [addP_none O p h]
    exact ho.below hb fun cs x _ r => r.below hb
  · rcases Nat.eq_zero_or_pos O.length with h0 | h0
    · obtain rfl := List.eq_nil_of_length_eq_zero h0
      exact add_first B v p sv w ho F hits hB hl h
    · obtain ⟨j, hj⟩ : ∃ j, O.length = j + 1 := ⟨O.length - 1, by omega⟩
      obtain ⟨q, hqj⟩ : ∃ q, O[j]? = some q := ⟨_, List.getElem?_eq_getElem (by omega)⟩
      have hlast : O.getLast? = some q := by rw [List.getLast?_eq_getElem?, hj]; exact hqj
      cases hal : alikeP q p with
      | false => exact add_more B v O p sv w ho F hits hB hl h j hj (by omega) q hqj hal
      | true =>
        obtain ⟨h1, h2, h3, h4⟩ := hq q hlast hal
        exact add_old B v O p sv w ho F hits hB hl h1 (fun e => h (Or.inl ⟨h1, e⟩)) hn0 hn1 (hpi h1) j hj (by omega) q hqj hal h2 h3 h4
end Go.Proofs.Ytgodceplajkcdaa
