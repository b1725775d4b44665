/- Package op: Tidy. -/
import Derived.Test.YtgodceplajkcdaaOpMade
import Derived.Test.YtgodceplajkcdaaOpC
namespace Go.Proofs.Ytgodceplajkcdaa
open Go.RowKit Go.Mh

theorem lok_of {L : List Pt} (h : OpOk L) : Lok L :=
  ⟨h.fm, fun p hp hk => (h.tp p hp).pos hk, by have := h.len; omega, fun p hp => by have := h.n80 p hp; omega, fun p hp => by have := h.i80 p hp; omega⟩

theorem own_base {α : Type} {b b' e sz : Nat} {R : World → List Value → α → Prop} {w : World} {v : Value} {L : List α} (h : OwnS b e sz R w v L) (hb : b' ≤ b) : OwnS b' e sz R w v L := by
  obtain ⟨css, ⟨h0, h1⟩, h2, h3⟩ := h
  refine ⟨css, ⟨h0, ?_⟩, h2, h3⟩
  rcases h1 with h1 | ⟨g, cap, cur, e1, hg, hr⟩
  · exact Or.inl h1
  · exact Or.inr ⟨g, cap, cur, e1, Nat.le_trans hb hg, hr⟩

/-- What Tidy answers. -/
def tidyP (L : List Pt) : List Pt × Int := if chkOp L ≠ 0 then ([], chkOp L) else (madeP L, 0)

set_option maxRecDepth 100000 in
set_option maxHeartbeats 1000000 in
theorem opTidy_any (G : Nat → Prop) (u : Value) (L : List Pt) (w : World) (g : ROp G w u L) :
    Calls Try.prog 41 #[u] w fun e w' => ∃ r, e = .returned (.tuple #[r, .int .i64 (tidyP L).2]) ∧ OwnS w.heap.size 57 7 (RPtI 42) w' r (tidyP L).1 ∧ Below w.heap.size w w' := by
  have H := Lib.hid g; clear g
  have hres : ∃ r, Hid (tidyP L = r) := ⟨_, Lib.hid rfl⟩
  obtain ⟨res, hres⟩ := hres
  rw [hres.out]
  unfold tidyP at hres
  go_enter Try.func41, Try.ntmps41
  go_wp2_with fail
  refine (opCheck_any G _ L w H.out).mono ?_
  rintro e w1 ⟨rfl, hb1⟩
  by_cases h1 : chkOp L = 0
  · have hres1 := hres.out
    rw [if_neg (by simpa using h1)] at hres1
    subst hres1
    clear hres
    have C := Lib.hid (opMade_any G _ L w1 (ROp.to H.out (Kp.below hb1)) (lok_of (chkOp_ok h1)))
    rw [h1]
    clear h1
    go_wp2_with fail
    refine C.out.mono ?_
    rintro e w2 ⟨r, rfl, hr, hb2⟩
    have hr' := Lib.hid (own_base hr hb1.size)
    clear hr
    go_wp2
    go_ret2
    exact ⟨r, rfl, hr'.out, hb1.trans (hb2.mono hb1.size)⟩
  · have hres1 := hres.out
    rw [if_pos (by simpa using h1)] at hres1
    subst hres1
    clear hres
    have h1' : (chkOp L != 0) = true := by simpa using h1
    clear h1
    go_wp2
    go_ret2
    exact ⟨.slice none 0 0, rfl, OwnS.nil, hb1⟩
end Go.Proofs.Ytgodceplajkcdaa
