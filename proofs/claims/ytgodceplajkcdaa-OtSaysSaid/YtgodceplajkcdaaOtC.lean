/- Package ot: tidy both. -/
import Derived.Test.YtgodceplajkcdaaOtA
import Derived.Test.YtgodceplajkcdaaOpTidy
namespace Go.Mh
open Go.RowKit
/-- The blocks from B on, and those that hold elements of type T. -/
abbrev Fr (T : TypeId) (B : Nat) (w : World) : Nat → Prop := fun k => B ≤ k ∨ Ty T w k
theorem OwnS.readF {base e : Nat} {T : TypeId} {w : World} {v : Value} {L : List Pt} (h : OwnS base e 7 (RPtI T) w v L) : ROp (Fr T base w) w v L :=
  RdS.to h.rd (by decide) (fun _ hk _ => ⟨Or.inl hk, rfl⟩) fun _ _ _ r => RPt.to r (Kp.weak w fun _ hk => Or.inr hk)
theorem fr_kp {T : TypeId} {B B' : Nat} {w w' : World} (hB : B ≤ B') (hb : Below w.heap.size w w') : Kp (Fr T B' w) (Fr T B w') w w' := fun k hF hk => by
  refine ⟨?_, hb.block k hk⟩
  rcases hF with h | ⟨xs, fr, e⟩
  · exact Or.inl (Nat.le_trans hB h)
  · exact Or.inr ⟨xs, fr, (hb.block k hk).trans e⟩
/-- What is read so does not lie in a block of another type below B. -/
theorem fr_ne {T e : TypeId} {B g : Nat} {w : World} {xs : Array Value} {fr : Nat × Nat} (hg : w.heap[g]? = some (.cells xs e fr)) (hT : e ≠ T) (hB : g < B) : Kp (Fr T B w) (· ≠ g) w w := fun k hF _ => by
  refine ⟨fun h => ?_, rfl⟩
  subst h
  rcases hF with h | ⟨xs', fr', e'⟩
  · omega
  · rw [hg] at e'
    cases e'
    exact hT rfl
end Go.Mh
namespace Go.Proofs.Ytgodceplajkcdaa
open Go.RowKit Go.Mh

theorem idx2_0 (v0 v1 : Value) (w : World) : (Instr.index 95 (.agg #[v0, v1]) (.int .i64 0)).run Try.prog w = .ok v0 w := by kernel_rfl
theorem idx2_1 (v0 v1 : Value) (w : World) : (Instr.index 95 (.agg #[v0, v1]) (.int .i64 1)).run Try.prog w = .ok v1 w := by kernel_rfl

def tidy2 (X Y : List Pt) : List Pt × List Pt × Int :=
  if chkOp (madeP X) ≠ 0 then ([], [], chkOp (madeP X)) else if chkOp (madeP Y) ≠ 0 then ([], [], chkOp (madeP Y)) else (madeP X, madeP Y, 0)

set_option maxRecDepth 100000 in
set_option maxHeartbeats 2000000 in
theorem otTidy_any (F G : Nat → Prop) (v u : Value) (X Y : List Pt) (w : World) (h : ROp F w v X) (g : ROp G w u Y) (hX : Lok X) (hY : Lok Y) :
    Calls Try.prog 101 #[v, u] w fun e w' => ∃ r s, e = .returned (.tuple #[r, s, .int .i64 (tidy2 X Y).2.2]) ∧ ROp (Fr 42 w.heap.size w') w' r (tidy2 X Y).1 ∧ ROp (Fr 42 w.heap.size w') w' s (tidy2 X Y).2.1 ∧ Below w.heap.size w w' := by
  obtain ⟨a, c, rfl, _⟩ := RdS.len h
  obtain ⟨a', c', rfl, _⟩ := RdS.len g
  have hres : ∃ r, Hid (tidy2 X Y = r) := ⟨_, Lib.hid rfl⟩
  obtain ⟨⟨P1, P2, P3⟩, hres⟩ := hres
  rw [hres.out]
  unfold tidy2 at hres
  have C1 := Lib.hid (opMade_any F _ X w h hX)
  have C0 := Lib.hid (fun (w1 : World) (hb1 : Below w.heap.size w w1) => opMade_any G _ Y w1 (ROp.to g (Kp.below hb1)) hY)
  generalize madeP X = X' at *
  generalize madeP Y = Y' at *
  clear h g hX hY
  go_enter Try.func101, Try.ntmps101
  go_wp2_with fail
  refine C1.out.mono ?_
  rintro e w1 ⟨r1, rfl, hr1, hb1⟩
  obtain ⟨a1, c1, rfl, _⟩ := RdS.len hr1.rd
  have hx1 := Lib.hid hr1
  have C2 := Lib.hid (C0.out w1 hb1)
  clear hr1 C1 C0
  go_wp2_with fail
  refine C2.out.mono ?_
  rintro e w2 ⟨r2, rfl, hr2, hb2⟩
  obtain ⟨a2, c2, rfl, _⟩ := RdS.len hr2.rd
  have hx2 := Lib.hid (ROp.to hx1.out.readF (fr_kp (Nat.le_refl _) hb2))
  have hy2 := Lib.hid (ROp.to hr2.readF (fr_kp hb1.size (brf _)))
  have hB2 := hb1.trans (hb2.mono hb1.size)
  clear hr2 C2 hx1 hb1 hb2
  have i0 := fun w => idx2_0 (.slice a1 X'.length c1) (.slice a2 Y'.length c2) w
  have i1 := fun w => idx2_1 (.slice a1 X'.length c1) (.slice a2 Y'.length c2) w
  go_wp2
  go_loopw [17] (fun i wr => ∃ k : Nat, k ≤ 2 ∧ i = .int .i64 k ∧ Below w2.heap.size w2 wr ∧ Hid (1 ≤ k → chkOp X' = 0) ∧ Hid (2 ≤ k → chkOp Y' = 0)) (fun i _ => 2 - (intOf i).toNat)
  case atStart => exact ⟨0, by omega, rfl, Below.refl _ _, Lib.hid (fun h => by omega), Lib.hid (fun h => by omega)⟩
  case round =>
    obtain ⟨k, hk, rfl, hbr, q1, q2⟩ := hrel
    rcases (by omega : k = 0 ∨ k = 1 ∨ k = 2) with rfl | rfl | rfl
    · by_cases hc : chkOp X' = 0
      · have K := Lib.hid (opCheck_any _ _ X' _ (ROp.to hx2.out (Kp.below hbr)))
        rw [hc] at K
        have hc' := Lib.hid hc
        clear hc q1 q2
        go_wp2_with fail
        refine K.out.mono ?_
        rintro e w3 ⟨rfl, hb3⟩
        go_wp2
        go_roundw
        case rel => exact ⟨1, by omega, rfl, hbr.trans (hb3.mono hbr.size), Lib.hid fun _ => hc'.out, Lib.hid fun h => by omega⟩
        case measure => simp [intOf]
      · have hr3 := hres.out
        rw [if_pos hc] at hr3
        cases hr3
        have K := Lib.hid (opCheck_any _ _ X' _ (ROp.to hx2.out (Kp.below hbr)))
        have hc' : (chkOp X' != 0) = true := by simpa using hc
        clear hc q1 q2 hres
        go_wp2_with fail
        refine K.out.mono ?_
        rintro e w3 ⟨rfl, hb3⟩
        go_wp2
        go_ret3
        exact ⟨.slice none 0 0, .slice none 0 0, rfl, RdS.nil, RdS.nil, hB2.trans ((hbr.trans (hb3.mono hbr.size)).mono hB2.size)⟩
    · have hcX := q1.out (by omega)
      by_cases hc : chkOp Y' = 0
      · have K := Lib.hid (opCheck_any _ _ Y' _ (ROp.to hy2.out (Kp.below hbr)))
        rw [hc] at K
        have hc' := Lib.hid hc
        clear hc hcX q2
        go_wp2_with fail
        refine K.out.mono ?_
        rintro e w3 ⟨rfl, hb3⟩
        go_wp2
        go_roundw
        case rel => exact ⟨2, by omega, rfl, hbr.trans (hb3.mono hbr.size), Lib.hid fun _ => q1.out (by omega), Lib.hid fun h => hc'.out⟩
        case measure => simp [intOf]
      · have hr3 := hres.out
        rw [if_neg (by simpa using hcX), if_pos hc] at hr3
        cases hr3
        have K := Lib.hid (opCheck_any _ _ Y' _ (ROp.to hy2.out (Kp.below hbr)))
        have hc' : (chkOp Y' != 0) = true := by simpa using hc
        clear hc q1 q2 hres hcX
        go_wp2_with fail
        refine K.out.mono ?_
        rintro e w3 ⟨rfl, hb3⟩
        go_wp2
        go_ret3
        exact ⟨.slice none 0 0, .slice none 0 0, rfl, RdS.nil, RdS.nil, hB2.trans ((hbr.trans (hb3.mono hbr.size)).mono hB2.size)⟩
    · have hr3 := hres.out
      rw [if_neg (by simpa using q1.out (by omega)), if_neg (by simpa using q2.out (by omega))] at hr3
      cases hr3
      clear q1 q2 hres
      go_wp2
      go_ret3
      exact ⟨_, _, rfl, ROp.to hx2.out (fr_kp (Nat.le_refl _) hbr), ROp.to hy2.out (fr_kp (Nat.le_refl _) hbr), hB2.trans (hbr.mono hB2.size)⟩
end Go.Proofs.Ytgodceplajkcdaa
