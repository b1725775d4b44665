/- The references on operations: how long one is, an item changed, operations held against another. -/
import Derived.Test.YtgodceplajkcdaaOpLong
import Derived.Test.YtgodceplajkcdaaOpSame
import Derived.Test.YtgodceplajkcdaaPlR
namespace Go.Proofs.Ytgodceplajkcdaa
open Go.RowKit Go.Mh

set_option maxRecDepth 100000 in
set_option maxHeartbeats 1000000 in
theorem refLong_any (G : Nat → Prop) (u : Value) (L : List Pt) (w : World) (g : ROp G w u L) :
    Calls Try.prog 43 #[u] w fun e w' => e = .returned (.tuple #[.int .i64 (longs 0 0 L).1, .int .i64 (longs 0 0 L).2]) ∧ Below w.heap.size w w' := by
  obtain ⟨a', cap', rfl, hn'⟩ := RdS.len g
  have G' := Lib.hid g; clear g
  go_enter Try.func43, Try.ntmps43
  go_wp2
  go_loopw [2, 3, 8] (fun f t i wr => ∃ (k : Nat) (f' t' : Int), k ≤ L.length ∧ i = .int .i64 k ∧ f = .int .i64 f' ∧ t = .int .i64 t' ∧ Hid (longs 0 0 L = longs f' t' (L.drop k)) ∧ Below w.heap.size w wr) (fun _ _ i _ => L.length - (intOf i).toNat)
  case atStart => exact ⟨0, 0, 0, Nat.zero_le _, rfl, rfl, rfl, Lib.hid rfl, Below.refl _ _⟩
  case round =>
    obtain ⟨k, f, t, hk, rfl, rfl, rfl, hst, hb⟩ := hrel
    by_cases hlt : k < L.length
    · obtain ⟨p, hp⟩ : ∃ x, L[k]? = some x := ⟨_, List.getElem?_eq_getElem hlt⟩
      obtain ⟨b, o, sv, rfl, hits, c0, c1, c2, c3, c4, c5, c6⟩ := ROp.at G'.out hb hp
      obtain ⟨sa, sc, rfl, hsn⟩ := RdS.len hits
      have hbs : b < wr.heap.size := lt_of_cell c0
      have hs := Lib.hid (hst.out.trans (longs_step f t hp))
      clear hits hp hst
      obtain ⟨xk, xn, xits, xset, xclr, xto, xl⟩ := p
      by_cases h1 : xk = 1
      · subst h1
        go_wp2
        go_roundw
        case rel => exact ⟨k + 1, _, _, by omega, by go_num, rfl, rfl, Lib.hid (by rw [hs.out]; simp [w64_wrap]), bal hb _⟩
        case measure => simp [intOf]; omega
      by_cases h2 : xk = 2
      · subst h2
        go_wp2
        go_roundw
        case rel => exact ⟨k + 1, _, _, by omega, by go_num, rfl, rfl, Lib.hid (by rw [hs.out]; simp [w64_wrap]), bal hb _⟩
        case measure => simp [intOf]; omega
      by_cases h3 : xk = 3
      · subst h3
        go_wp2
        go_roundw
        case rel => exact ⟨k + 1, _, _, by omega, by go_num, rfl, rfl, Lib.hid (by rw [hs.out]; simp [w64_wrap]), bal hb _⟩
        case measure => simp [intOf]; omega
      have hs2 := Lib.hid (hs.out.trans (by simp only [if_neg h1, if_neg h2, if_neg h3] : _ = longs f t (L.drop (k + 1))))
      have e1 : (xk == 1) = false := by simpa using h1
      have e2 : (xk == 2) = false := by simpa using h2
      have e3 : (xk == 3) = false := by simpa using h3
      clear h1 h2 h3 hs
      go_wp2
      go_roundw
      case rel => exact ⟨k + 1, _, _, by omega, by go_num, rfl, rfl, hs2, bal hb _⟩
      case measure => simp [intOf]; omega
    · obtain rfl : k = L.length := by omega
      have hfin : Hid (longs 0 0 L = (f, t)) := Lib.hid (by rw [hst.out, List.drop_length]; rfl)
      go_wp2
      go_ret2
      exact ⟨by rw [hfin.out]; rfl, hb⟩

set_option maxRecDepth 100000 in
set_option maxHeartbeats 1000000 in
theorem changed_any (x : It) (p : Pt) (sv : Value) (w : World) (hx : x.Mk) (hp : p.kd.Ok) :
    Calls Try.prog 93 #[iv x, pv p sv] w fun e w' => e = .returned (iv (markI x p.kd)) ∧ Below w.heap.size w w' := by
  obtain ⟨c, m, l⟩ := x
  obtain ⟨k, n, its, set, clr, to, pl⟩ := p
  have hm : m - band m clr = bnot m clr := sub_band_of hx.1 hx.2 hp.c0 hp.c3
  have hw : IntKind.i64.wrap (m - band m clr) = bnot m clr := by
    rw [hm]
    obtain ⟨y, rfl⟩ := small4 hx.1 hx.2
    obtain ⟨z, hz⟩ := small4 hp.c0 hp.c3
    have hz' : clr = (z.val : Int) := hz
    rw [hz', bnot4]
    have := (not4 y z).isLt
    simp [IntKind.wrap, IntKind.bits, IntKind.signed]; omega
  clear hm hx hp
  cases to with
  | false =>
    go_enter Try.func93, Try.ntmps93
    go_wp2
    exact bodyPost_ret (v := iv ⟨c, bor (bnot m clr) set, l⟩) (by simp [results, Try.results93, go_sem]) rfl ⟨rfl, bal (bal (bal (brf _) _) _) _⟩
  | true =>
    by_cases hc : (c.toNat : Int) = 10
    · have hcb : ((c.toNat : Int) != 10) = false := by simpa using hc
      have hc' := Lib.hid hc; clear hc
      go_enter Try.func93, Try.ntmps93
      go_wp2
      exact bodyPost_ret (v := iv ⟨c, bor (bnot m clr) set, l⟩) (by simp [results, Try.results93, go_sem]) rfl ⟨congrArg (fun x => Ending.returned (iv x)) (by simp [markI, Pt.kd, hc'.out]), bal (bal (bal (brf _) _) _) _⟩
    · have hcb : ((c.toNat : Int) != 10) = true := by simpa using hc
      have hc' := Lib.hid hc; clear hc
      go_enter Try.func93, Try.ntmps93
      go_wp2
      exact bodyPost_ret (v := iv ⟨c, bor (bnot m clr) set, pl⟩) (by simp [results, Try.results93, go_sem]) rfl ⟨congrArg (fun x => Ending.returned (iv x)) (by simp [markI, Pt.kd, hc'.out]), bal (bal (bal (brf _) _) _) _⟩
end Go.Proofs.Ytgodceplajkcdaa
