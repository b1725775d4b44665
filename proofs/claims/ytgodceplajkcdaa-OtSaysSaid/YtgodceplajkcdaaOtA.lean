/- Package ot: the reader; parts that keep, over one another, and as one. -/
import Derived.Test.YtgodceplajkcdaaMemA
import Derived.Test.YtgodceplajkcdaaOpA
import Derived.Test.YtgodceplajkcdaaTac
import Derived.BigRegion
import Derived.RegionTactic
import Derived.IntWalk
namespace Go.Proofs.Ytgodceplajkcdaa
open Go.RowKit Go.Mh

set_option maxRecDepth 100000 in
set_option maxHeartbeats 2000000 in
theorem over_any (p q : Pt) (sv tv : Value) (w : World) (hs : ∃ a n c, sv = .slice a n c) :
    Calls Try.prog 103 #[pv p sv, pv q tv] w fun e w' => e = .returned (pv (overP p q) sv) ∧ Below w.heap.size w w' := by
  obtain ⟨sa, sn, sc, rfl⟩ := hs
  obtain ⟨k, n, its, set, clr, to, l⟩ := p
  obtain ⟨k', n', its', set', clr', to', l'⟩ := q
  cases to' with
  | false =>
    go_enter Try.func103, Try.ntmps103
    go_wp2
    exact bodyPost_ret (v := pv (overP ⟨k, n, its, set, clr, to, l⟩ ⟨k', n', its', set', clr', false, l'⟩) (.slice sa sn sc)) (by simp [results, Try.results103, go_sem, overP]) rfl ⟨rfl, bal (bal (bal (brf _) _) _) _⟩
  | true =>
    go_enter Try.func103, Try.ntmps103
    go_wp2
    exact bodyPost_ret (v := pv (overP ⟨k, n, its, set, clr, to, l⟩ ⟨k', n', its', set', clr', true, l'⟩) (.slice sa sn sc)) (by simp [results, Try.results103, go_sem, overP]) rfl ⟨rfl, bal (bal (bal (brf _) _) _) _⟩

set_option maxRecDepth 100000 in
set_option maxHeartbeats 2000000 in
theorem both_any (p q : Pt) (sv tv : Value) (w : World) (hs : ∃ a n c, sv = .slice a n c) :
    Calls Try.prog 104 #[pv p sv, pv q tv] w fun e w' => e = .returned (pv (bothP p q) sv) ∧ Below w.heap.size w w' := by
  obtain ⟨sa, sn, sc, rfl⟩ := hs
  obtain ⟨k, n, its, set, clr, to, l⟩ := p
  obtain ⟨k', n', its', set', clr', to', l'⟩ := q
  cases to' with
  | false =>
    go_enter Try.func104, Try.ntmps104
    go_wp2
    go_region
    go_wp2
    exact bodyPost_ret (v := pv (bothP ⟨k, n, its, set, clr, to, l⟩ ⟨k', n', its', set', clr', false, l'⟩) (.slice sa sn sc)) (by simp [results, Try.results104, go_sem, bothP]) rfl ⟨rfl, (bal (bal (bal (brf _) _) _) _).drew⟩
  | true =>
    go_enter Try.func104, Try.ntmps104
    go_wp2
    go_region
    go_wp2
    go_region
    go_wp2
    exact bodyPost_ret (v := pv (bothP ⟨k, n, its, set, clr, to, l⟩ ⟨k', n', its', set', clr', true, l'⟩) (.slice sa sn sc)) (by simp [results, Try.results104, go_sem, bothP]) rfl ⟨rfl, (bal (bal (bal (brf _) _) _) _).drew.drew⟩
end Go.Proofs.Ytgodceplajkcdaa
