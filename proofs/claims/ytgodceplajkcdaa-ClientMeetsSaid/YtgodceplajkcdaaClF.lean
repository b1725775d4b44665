/- Package client: Hear: a message of the server. -/
import Derived.Test.YtgodceplajkcdaaClE
import Derived.Test.YtgodceplajkcdaaClD
namespace Go.Mh
open Go.RowKit
/-- What stands beside the client while it hears: the message, the room for the result. -/
structure HrS (e em : TypeId) (F : Nat → Prop) (w wx : World) (ov : Value) (m : Msg) : Prop where
  M : wx.heap[w.heap.size + 1]? = some (.cells #[.int .i64 m.rev, .int .i64 m.e.client, .int .i64 m.e.seq, ov] em (0, 0))
  Z : wx.heap[w.heap.size + 2]? = some (.cells #[.int .i64 0, .slice none 0 0, .slice none 0 0, .int .i64 0, .slice none 0 0, .slice none 0 0, .bool false] e (0, 0))
  V : ROp F wx ov m.e.o
  B : Below w.heap.size w wx
theorem HrS.below {e em : TypeId} {F : Nat → Prop} {w wx wy : World} {ov : Value} {m : Msg} (h : HrS e em F w wx ov m) (hb : Below wx.heap.size wx wy) : HrS e em F w wy ov m :=
  ⟨(hb.block _ (lt_of_heap h.M)).trans h.M, (hb.block _ (lt_of_heap h.Z)).trans h.Z, ROp.to h.V (Kp.below hb), h.B.trans (hb.mono h.B.size)⟩
theorem HrS.stays {e em : TypeId} {F : Nat → Prop} {w wx wy : World} {ov : Value} {m : Msg} (h : HrS e em F w wx ov m) (hF : ¬ F w.heap.size) (hs : Stays w.heap.size wx wy) : HrS e em F w wy ov m :=
  ⟨(hs.same _ (lt_of_heap h.M) (by omega)).trans h.M, (hs.same _ (lt_of_heap h.Z) (by omega)).trans h.Z, ROp.to h.V (kp_stays hF hs), h.B.trans (hs.bel.mono (Nat.le_refl _))⟩
def P4 (w : World) (g : Nat) (v0 v1 v2 v3 : Value) : Prop := w.cell? ⟨g, 0, none⟩ = some v0 ∧ w.cell? ⟨g, 1, none⟩ = some v1 ∧ w.cell? ⟨g, 2, none⟩ = some v2 ∧ w.cell? ⟨g, 3, none⟩ = some v3
theorem P4.of {w : World} {g T : Nat} {fr : Nat × Nat} {v0 v1 v2 v3 : Value} (h : w.heap[g]? = some (.cells #[v0, v1, v2, v3] T fr)) : P4 w g v0 v1 v2 v3 := by
  refine ⟨?_, ?_, ?_, ?_⟩ <;> (unfold World.cell?; rw [h]; rfl)
theorem heap_at3 {w : World} {o o' o'' : Obj} {g : Nat} (h : g = w.heap.size) : (((w.alloc o).alloc o').alloc o'').heap[g]? = some o := by
  subst h
  exact ((bal (brf _) _).block _ (by simp; omega)).trans (heap_at2 rfl)
end Go.Mh
namespace Go.Proofs.Ytgodceplajkcdaa
open Go.RowKit Go.Mh

set_option maxRecDepth 100000 in
set_option maxHeartbeats 8000000 in
theorem clHear_any (F G : Nat → Prop) (v ov : Value) (c : Cl) (who : Int) (m : Msg) (w : World) (h : RCl F w v c) (g : ROp G w ov m.e.o) :
    Calls Try.prog 64 #[v, .int .i64 who, .agg #[.int .i64 m.rev, .int .i64 m.e.client, .int .i64 m.e.seq, ov]] w fun e w' => ∃ v', e = .returned (.tuple #[v', .bool (hearC c who m).2.1, .int .i64 (hearC c who m).2.2]) ∧ RCl (fun _ => True) w' v' (hearC c who m).1 ∧ Below w.heap.size w w' := by
  have hh := RCl.to h (Kp.lt w)
  have gg := ROp.to g (Kp.lt w)
  clear h g
  obtain ⟨b, n, s, k, rfl, h1, h2, h3, h4⟩ := id hh
  obtain ⟨ba, bc, rfl, _⟩ := RdS.len h1
  obtain ⟨na, nc, rfl, _⟩ := RdS.len h2
  obtain ⟨sa, sc, rfl, _⟩ := RdS.len h3
  obtain ⟨ka, kc, rfl, _⟩ := RdS.len h4
  obtain ⟨oa, oc, rfl, _⟩ := RdS.len gg
  have H := Lib.hid hh
  have V := Lib.hid gg
  clear h1 h2 h3 h4 hh gg
  obtain ⟨w1, hw1⟩ : ∃ w1, w1 = ((w.alloc (.cells #[.int .i64 c.rev, .slice ba c.base.length bc, .slice na c.now.length nc, .int .i64 c.seq, .slice sa c.sent.length sc, .slice ka c.held.length kc, .bool c.joined] 87)).alloc (.cells #[.int .i64 m.rev, .int .i64 m.e.client, .int .i64 m.e.seq, .slice oa m.e.o.length oc] 89)).alloc clZero := ⟨_, rfl⟩
  have hb1 : Below w.heap.size w w1 := by rw [hw1]; exact bal (bal (bal (brf w) _) _) _
  have hG1 := Lib.hid (by rw [hw1]; exact heap_at3 rfl : w1.heap[w.heap.size]? = some (.cells #[.int .i64 c.rev, .slice ba c.base.length bc, .slice na c.now.length nc, .int .i64 c.seq, .slice sa c.sent.length sc, .slice ka c.held.length kc, .bool c.joined] 87 (0, 0)))
  have K1 := Lib.hid (⟨by rw [hw1]; exact heap_at2 (by simp), by rw [hw1]; exact heap_at (by simp), ROp.to V.out (fun i hi hl => ⟨by have := hi.2; exact ⟨by omega, by omega, by omega⟩, hb1.block i hi.2⟩), hb1⟩ : HrS 87 89 (fun k => k ≠ w.heap.size ∧ k ≠ w.heap.size + 1 ∧ k ≠ w.heap.size + 2) w w1 (.slice oa m.e.o.length oc) m)
  have hz1 := lt_of_heap hG1.out
  have hres : ∃ r, Hid (hearC c who m = r) := ⟨_, Lib.hid rfl⟩
  obtain ⟨⟨R1, R2, R3⟩, hres⟩ := hres
  rw [hres.out]
  go_enter Try.func64, Try.ntmps64
  go_upto_region 1 with fail
  rw [← hw1]
  clear hw1
  obtain ⟨x0, x1, x2, x3, x4, x5, x6⟩ := P7.of hG1.out
  go_wp2_with fail
  refine (clCheck_any _ _ c w1 (RCl.to H.out (Kp.below hb1))).mono ?_
  rintro e w2 ⟨rfl, hb2⟩
  have K2 := Lib.hid (K1.out.below hb2)
  have hK1 := Lib.hid ((hb2.block _ hz1).trans hG1.out)
  have hz1 := lt_of_heap hK1.out
  clear x0 x1 x2 x3 x4 x5 x6 hG1 hb1 hb2 K1
  obtain ⟨x0, x1, x2, x3, x4, x5, x6⟩ := P7.of hK1.out
  by_cases hck : chkCl c = 0
  · have hok := Lib.hid (ClOk.of hck)
    have hck' := Lib.hid hck
    rw [hck]
    clear hck
    go_wp2_with fail
    refine (clCopy_any _ _ c w2 (RCl.to H.out (Kp.below K2.out.B)) hok.out.sm).mono ?_
    rintro e w4 ⟨v4, rfl, hr4, hb4⟩
    obtain ⟨b4, n4, s4, k4, rfl, _⟩ := id hr4
    obtain ⟨p1, p2, p3, p4, p5, p6, p7, p8, rfl, rfl, rfl, rfl⟩ := rcl_shape hr4
    have hK4 := Lib.hid ((hb4.block _ hz1).trans hK1.out)
    have K4 := Lib.hid (K2.out.below hb4)
    have z24 : w2.heap.size ≤ w4.heap.size := hb4.size
    have zz2 := lt_of_heap K2.out.Z
    have hcat := CAt.ofVal (F := (fun k => k ≠ w.heap.size ∧ k ≠ w.heap.size + 1 ∧ k ≠ w.heap.size + 2)) hK4.out hr4 (fun h => h.1 rfl) (fun k hk => ⟨by omega, by omega, by omega⟩) (fun i hi => by rcases hi with hi | hi; exact ⟨by omega, by omega, by omega⟩; have := hi.2; exact ⟨by omega, by omega, by omega⟩)
    have hz14 := lt_of_heap hK4.out
    clear x0 x1 x2 x3 x4 x5 x6 hb4 hr4 K2 hK1 z24 zz2 hz1
    obtain ⟨x0, x1, x2, x3, x4, x5, x6⟩ := P7.of hK4.out
    have hfz : ∀ i, w4.frozen? ⟨w.heap.size, i, none⟩ = false := fun i => Lib.frozen_of_heap hK4.out _
    go_upto_region 5 with fail
    refine name_world ?_
    intro w5 hW5
    have hA := hcat.1
    have hS := hcat.2
    rw [hW5] at hA hS
    have H5 := Lib.hid hA
    have K5 := Lib.hid (K4.out.stays (fun h => h.1 rfl) hS)
    clear hcat hA hS hW5 hfz x0 x1 x2 x3 x4 x5 x6 K4 hK4 hz14
    obtain ⟨_, _, bb, nn, ss, kk, e0, e1, e2, e3, e4⟩ := H5.out
    obtain ⟨ba, bc, rfl, _⟩ := RdS.len e1
    obtain ⟨na, nc, rfl, _⟩ := RdS.len e2
    obtain ⟨sa, sc, rfl, _⟩ := RdS.len e3
    obtain ⟨ka, kc, rfl, _⟩ := RdS.len e4
    obtain ⟨x0, x1, x2, x3, x4, x5, x6⟩ := P7.of e0
    have E0 := Lib.hid e0
    have E1 := Lib.hid e1
    have E3 := Lib.hid e3
    have E4 := Lib.hid e4
    have hfz : ∀ i, w5.frozen? ⟨w.heap.size, i, none⟩ = false := fun i => Lib.frozen_of_heap e0 _
    have hgx : w.heap.size < w5.heap.size := lt_of_heap e0
    clear e0 e1 e2 e3 e4
    obtain ⟨u0, u1, u2, u3⟩ := P4.of K5.out.M
    go_cut [10] (fun s10 wx => s10 = .bool (decide (m.e.client = who ∧ m.e.seq = c.seq ∧ c.sent ≠ [])) ∧ wx = w5)
    case first =>
      have way : ((m.e.client == who) = true ∧ (m.e.seq == c.seq) = true ∧ 0 < c.sent.length ∧ (m.e.client = who ∧ m.e.seq = c.seq ∧ c.sent ≠ [])) ∨ ((m.e.client == who) = true ∧ (m.e.seq == c.seq) = true ∧ ¬ 0 < c.sent.length ∧ ¬ (m.e.client = who ∧ m.e.seq = c.seq ∧ c.sent ≠ [])) ∨ ((m.e.client == who) = true ∧ (m.e.seq == c.seq) = false ∧ ¬ (m.e.client = who ∧ m.e.seq = c.seq ∧ c.sent ≠ [])) ∨ ((m.e.client == who) = false ∧ ¬ (m.e.client = who ∧ m.e.seq = c.seq ∧ c.sent ≠ [])) := by
        by_cases a1 : m.e.client = who
        · by_cases a2 : m.e.seq = c.seq
          · by_cases a3 : c.sent = []
            · exact Or.inr (Or.inl ⟨by simpa using a1, by simpa using a2, lpos_false a3, fun h => h.2.2 a3⟩)
            · exact Or.inl ⟨by simpa using a1, by simpa using a2, lpos_true a3, a1, a2, a3⟩
          · exact Or.inr (Or.inr (Or.inl ⟨by simpa using a1, by simpa using a2, fun h => a2 h.2.1⟩))
        · exact Or.inr (Or.inr (Or.inr ⟨by simpa using a1, fun h => a1 h.1⟩))
      rcases way with ⟨t1, t2, t3, t4⟩ | ⟨t1, t2, t3, t4⟩ | ⟨t1, t2, t4⟩ | ⟨t1, t4⟩
      · have t5 := Lib.hid (decide_eq_true t4)
        clear t4
        go_wp2
        go_meet
        exact ⟨by rw [t5.out], rfl⟩
      · have t5 := Lib.hid (decide_eq_false t4)
        clear t4
        go_wp2
        go_meet
        exact ⟨by rw [t5.out], rfl⟩
      · have t5 := Lib.hid (decide_eq_false t4)
        clear t4
        go_wp2
        go_meet
        exact ⟨by rw [t5.out], rfl⟩
      · have t5 := Lib.hid (decide_eq_false t4)
        clear t4
        go_wp2
        go_meet
        exact ⟨by rw [t5.out], rfl⟩
    case rest =>
      obtain ⟨rfl, hwc⟩ := hcut
      rw [hwc]
      clear hwc
      obtain ⟨ow, how⟩ : ∃ ow, Hid (decide (m.e.client = who ∧ m.e.seq = c.seq ∧ c.sent ≠ []) = ow) := ⟨_, Lib.hid rfl⟩
      rw [how.out]
      have hwr : IntKind.i64.wrap (c.rev + 1) = c.rev + 1 := IntWalk.i64_in _ (by have := hok.out.r0; have := hok.out.r60; omega)
      by_cases ho : m.e.o = []
      · have t1 := len0_true ho
        by_cases hown : (m.e.client = who ∧ m.e.seq = c.seq ∧ c.sent ≠ [])
        · have hr := hres.out
          rw [hearC, if_neg (by simpa using hck'.out), if_pos ho, if_pos hown] at hr
          cases hr
          obtain rfl : ow = true := how.out.symm.trans (decide_eq_true hown)
          clear hres ho hown
          go_wp2_with fail
          refine (clGive_any _ _ c w5 H5.out hok.out.sm.b).mono ?_
          rintro e w6 ⟨rfl, H6', S6⟩
          have H6 := Lib.hid H6'
          have K6 := Lib.hid (K5.out.stays (fun h => h.1 rfl) S6)
          clear x0 x1 x2 x3 x4 x5 x6 u0 u1 u2 u3 hfz H6' S6 K5 H5
          obtain ⟨b9, n9, s9, k9, h0, hR⟩ := H6.out.val
          obtain ⟨m1, m2, m3, m4, m5, m6, m7, m8, rfl, rfl, rfl, rfl⟩ := rcl_shape hR
          obtain ⟨y0, y1, y2, y3, y4, y5, y6⟩ := P7.of K6.out.Z
          obtain ⟨x0, x1, x2, x3, x4, x5, x6⟩ := P7.of h0
          have hfz2 : ∀ i, w6.frozen? ⟨w.heap.size + 2, i, none⟩ = false := fun i => Lib.frozen_of_heap K6.out.Z _
          have hzz := lt_of_heap K6.out.Z
          have hR' := Lib.hid hR
          clear hR h0
          go_wp2
          obtain ⟨q1, q2⟩ := set7z K6.out.Z (.int .i64 (giveC c).rev) (.slice m1 (giveC c).base.length m2) (.slice m3 (giveC c).now.length m4) (.int .i64 (giveC c).seq) (.slice m5 (giveC c).sent.length m6) (.slice m7 (giveC c).held.length m8) (.bool (giveC c).joined)
          generalize hwz : (((((((w6.setCell ⟨w.heap.size + 2, 0, none⟩ _).setCell ⟨w.heap.size + 2, 1, none⟩ _).setCell ⟨w.heap.size + 2, 2, none⟩ _).setCell ⟨w.heap.size + 2, 3, none⟩ _).setCell ⟨w.heap.size + 2, 4, none⟩ _).setCell ⟨w.heap.size + 2, 5, none⟩ _).setCell ⟨w.heap.size + 2, 6, none⟩ _) = wz at *
          obtain ⟨z0, z1, z2, z3, z4, z5, z6⟩ := P7.of q1
          exact bodyPost_ret (v := .tuple #[.agg #[.int .i64 (giveC c).rev, .slice m1 (giveC c).base.length m2, .slice m3 (giveC c).now.length m4, .int .i64 (giveC c).seq, .slice m5 (giveC c).sent.length m6, .slice m7 (giveC c).held.length m8, .bool (giveC c).joined], .bool false, .int .i64 0]) (by simp [results, Try.results64, go_sem, z0, z1, z2, z3, z4, z5, z6]) rfl ⟨_, rfl, RCl.to hR'.out (fun i hi hl => ⟨trivial, q2.same i hl hi.2.2⟩), K6.out.B.trans (q2.bel.mono (by omega))⟩
        · have hr := hres.out
          rw [hearC, if_neg (by simpa using hck'.out), if_pos ho, if_neg hown] at hr
          cases hr
          obtain rfl : ow = false := how.out.symm.trans (decide_eq_false hown)
          clear hres ho hown x0 x1 x2 x3 x4 x5 x6
          obtain ⟨b9, n9, s9, k9, h0, hR⟩ := H5.out.val
          obtain ⟨m1, m2, m3, m4, m5, m6, m7, m8, rfl, rfl, rfl, rfl⟩ := rcl_shape hR
          obtain ⟨y0, y1, y2, y3, y4, y5, y6⟩ := P7.of K5.out.Z
          obtain ⟨x0, x1, x2, x3, x4, x5, x6⟩ := P7.of h0
          have hfz2 : ∀ i, w5.frozen? ⟨w.heap.size + 2, i, none⟩ = false := fun i => Lib.frozen_of_heap K5.out.Z _
          have hzz := lt_of_heap K5.out.Z
          have hR' := Lib.hid hR
          clear hR h0
          go_wp2
          obtain ⟨q1, q2⟩ := set7z K5.out.Z (.int .i64 (c).rev) (.slice m1 (c).base.length m2) (.slice m3 (c).now.length m4) (.int .i64 (c).seq) (.slice m5 (c).sent.length m6) (.slice m7 (c).held.length m8) (.bool (c).joined)
          generalize hwz : (((((((w5.setCell ⟨w.heap.size + 2, 0, none⟩ _).setCell ⟨w.heap.size + 2, 1, none⟩ _).setCell ⟨w.heap.size + 2, 2, none⟩ _).setCell ⟨w.heap.size + 2, 3, none⟩ _).setCell ⟨w.heap.size + 2, 4, none⟩ _).setCell ⟨w.heap.size + 2, 5, none⟩ _).setCell ⟨w.heap.size + 2, 6, none⟩ _) = wz at *
          obtain ⟨z0, z1, z2, z3, z4, z5, z6⟩ := P7.of q1
          exact bodyPost_ret (v := .tuple #[.agg #[.int .i64 (c).rev, .slice m1 (c).base.length m2, .slice m3 (c).now.length m4, .int .i64 (c).seq, .slice m5 (c).sent.length m6, .slice m7 (c).held.length m8, .bool (c).joined], .bool false, .int .i64 0]) (by simp [results, Try.results64, go_sem, z0, z1, z2, z3, z4, z5, z6]) rfl ⟨_, rfl, RCl.to hR'.out (fun i hi hl => ⟨trivial, q2.same i hl hi.2.2⟩), K5.out.B.trans (q2.bel.mono (by omega))⟩
      · have t1 := len0_false ho
        go_wp2_with fail
        refine (opCheck_any _ _ m.e.o w5 K5.out.V).mono ?_
        rintro e w6 ⟨rfl, hb6⟩
        have H6 := Lib.hid (H5.out.below hb6)
        have K6 := Lib.hid (K5.out.below hb6)
        clear x0 x1 x2 x3 x4 x5 x6 u0 u1 u2 u3 hfz K5 H5 hb6 E0 E1 E3 E4 hgx
        obtain ⟨_, _, bb, nn, ss, kk, e0, e1, e2, e3, e4⟩ := H6.out
        obtain ⟨ba, bc, rfl, _⟩ := RdS.len e1
        obtain ⟨na, nc, rfl, _⟩ := RdS.len e2
        obtain ⟨sa, sc, rfl, _⟩ := RdS.len e3
        obtain ⟨ka, kc, rfl, _⟩ := RdS.len e4
        obtain ⟨x0, x1, x2, x3, x4, x5, x6⟩ := P7.of e0
        have E0 := Lib.hid e0
        have E1 := Lib.hid e1
        have E3 := Lib.hid e3
        have E4 := Lib.hid e4
        have hfz : ∀ i, w6.frozen? ⟨w.heap.size, i, none⟩ = false := fun i => Lib.frozen_of_heap e0 _
        have hgx : w.heap.size < w6.heap.size := lt_of_heap e0
        clear e0 e1 e2 e3 e4
        obtain ⟨u0, u1, u2, u3⟩ := P4.of K6.out.M
        by_cases hk : chkOp m.e.o = 0
        · have hk' := Lib.hid hk
          rw [hk]
          clear hk
          by_cases hbq : m.rev ≠ c.rev + 1 ∨ c.rev = 60
          · have hr := hres.out
            rw [hearC, if_neg (by simpa using hck'.out), if_neg ho, if_neg (by simpa using hk'.out), if_pos hbq] at hr
            cases hr
            have way : (m.rev != c.rev + 1) = true ∨ ((m.rev != c.rev + 1) = false ∧ (c.rev == 60) = true) := by
              by_cases a1 : m.rev = c.rev + 1
              · exact Or.inr ⟨by simpa using a1, by simp; rcases hbq with h | h; exact absurd a1 h; exact h⟩
              · exact Or.inl (by simpa using a1)
            clear hres ho hbq
            rcases way with b1 | ⟨b1, b2⟩
            all_goals
              clear E0 E1 E3 E4
              go_upto_region 14 with fail
              clear x0 x1 x2 x3 x4 x5 x6
              obtain ⟨b9, n9, s9, k9, h0, hR⟩ := H6.out.val
              obtain ⟨m1, m2, m3, m4, m5, m6, m7, m8, rfl, rfl, rfl, rfl⟩ := rcl_shape hR
              obtain ⟨y0, y1, y2, y3, y4, y5, y6⟩ := P7.of K6.out.Z
              obtain ⟨x0, x1, x2, x3, x4, x5, x6⟩ := P7.of h0
              have hfz2 : ∀ i, w6.frozen? ⟨w.heap.size + 2, i, none⟩ = false := fun i => Lib.frozen_of_heap K6.out.Z _
              have hzz := lt_of_heap K6.out.Z
              have hR' := Lib.hid hR
              clear hR h0
              go_wp2
              obtain ⟨q1, q2⟩ := set7z K6.out.Z (.int .i64 (c).rev) (.slice m1 (c).base.length m2) (.slice m3 (c).now.length m4) (.int .i64 (c).seq) (.slice m5 (c).sent.length m6) (.slice m7 (c).held.length m8) (.bool (c).joined)
              generalize hwz : (((((((w6.setCell ⟨w.heap.size + 2, 0, none⟩ _).setCell ⟨w.heap.size + 2, 1, none⟩ _).setCell ⟨w.heap.size + 2, 2, none⟩ _).setCell ⟨w.heap.size + 2, 3, none⟩ _).setCell ⟨w.heap.size + 2, 4, none⟩ _).setCell ⟨w.heap.size + 2, 5, none⟩ _).setCell ⟨w.heap.size + 2, 6, none⟩ _) = wz at *
              obtain ⟨z0, z1, z2, z3, z4, z5, z6⟩ := P7.of q1
              exact bodyPost_ret (v := .tuple #[.agg #[.int .i64 (c).rev, .slice m1 (c).base.length m2, .slice m3 (c).now.length m4, .int .i64 (c).seq, .slice m5 (c).sent.length m6, .slice m7 (c).held.length m8, .bool (c).joined], .bool false, .int .i64 0]) (by simp [results, Try.results64, go_sem, z0, z1, z2, z3, z4, z5, z6]) rfl ⟨_, rfl, RCl.to hR'.out (fun i hi hl => ⟨trivial, q2.same i hl hi.2.2⟩), K6.out.B.trans (q2.bel.mono (by omega))⟩
          · have b1 : (m.rev != c.rev + 1) = false := by simp; exact Decidable.byContradiction fun h => hbq (Or.inl h)
            have b2 : (c.rev == 60) = false := by simp; exact fun h => hbq (Or.inr h)
            by_cases hown : (m.e.client = who ∧ m.e.seq = c.seq ∧ c.sent ≠ [])
            · obtain rfl : ow = true := how.out.symm.trans (decide_eq_true hown)
              have C := Lib.hid (opApply_any _ _ _ _ c.base m.e.o w6 E1.out K6.out.V)
              by_cases he : (applyP c.base m.e.o).2 = 0
              · rw [he] at C
                have he' := Lib.hid he
                have hlen := Lib.hid (applyP_len he)
                have hr := hres.out
                rw [hearC, if_neg (by simpa using hck'.out), if_neg ho, if_neg (by simpa using hk'.out), if_neg hbq, if_neg (not_not_intro hown), if_neg (by simpa using he)] at hr
                have hr' := Lib.hid hr
                clear hr hres ho hbq hown he
                go_wp2_with fail
                refine C.out.mono ?_
                rintro e w7 ⟨r7, rfl, hr7, hb7⟩
                obtain ⟨ra, rc, rfl, _⟩ := RdS.len hr7
                have H7 := Lib.hid (H6.out.below hb7)
                have K7 := Lib.hid (K6.out.below hb7)
                have A7 := Lib.hid (RItems.to hr7 (fun i hi hl => ⟨H6.out.2.1 i hi, rfl⟩) : RItems (fun k => k ≠ w.heap.size ∧ k ≠ w.heap.size + 1 ∧ k ≠ w.heap.size + 2) w7 (.slice ra (applyP c.base m.e.o).1.length rc) (applyP c.base m.e.o).1)
                have E07 := Lib.hid ((hb7.block _ hgx).trans E0.out)
                have E47 := Lib.hid (ROp.to E4.out (Kp.below hb7))
                clear x0 x1 x2 x3 x4 x5 x6 u0 u1 u2 u3 hfz C K6 H6 E0 E1 E3 E4 hr7 hb7 hgx
                obtain ⟨x0, x1, x2, x3, x4, x5, x6⟩ := P7.of E07.out
                have hfz : ∀ i, w7.frozen? ⟨w.heap.size, i, none⟩ = false := fun i => Lib.frozen_of_heap E07.out _
                have hgx : w.heap.size < w7.heap.size := lt_of_heap E07.out
                have S8 : Stays w.heap.size w7 ((w7.setCell ⟨w.heap.size, 1, none⟩ (.slice ra (applyP c.base m.e.o).1.length rc)).setCell ⟨w.heap.size, 0, none⟩ (.int .i64 (c.rev + 1))) := Stays.set.trans Stays.set
                have nF : ¬ (fun k => k ≠ w.heap.size ∧ k ≠ w.heap.size + 1 ∧ k ≠ w.heap.size + 2) w.heap.size := fun h => h.1 rfl
                have H8 := Lib.hid ((((H7.out.set1 A7.out).set0 (c.rev + 1)).set4 (ROp.to E47.out (kp_stays nF S8))).set5 (RdS.nil : ROp _ _ (.slice none 0 0) []))
                have S9 : Stays w.heap.size w7 ((((w7.setCell ⟨w.heap.size, 1, none⟩ (.slice ra (applyP c.base m.e.o).1.length rc)).setCell ⟨w.heap.size, 0, none⟩ (.int .i64 (c.rev + 1))).setCell ⟨w.heap.size, 4, none⟩ (.slice ka c.held.length kc)).setCell ⟨w.heap.size, 5, none⟩ (.slice none 0 0)) := (S8.trans Stays.set).trans Stays.set
                have K8 := Lib.hid (K7.out.stays nF S9)
                have A8 := Lib.hid (RItems.to A7.out (kp_stays nF S9))
                clear S8 S9 H7 K7 A7 E47
                go_upto_region 22 with fail
                refine name_world ?_
                intro w8 hW8
                rw [hW8] at H8 K8 A8
                clear hW8 x0 x1 x2 x3 x4 x5 x6 hfz hgx E07
                obtain ⟨_, _, bb, nn, ss, kk, e0, e1, e2, e3, e4⟩ := H8.out
                obtain ⟨ba8, bc8, rfl, _⟩ := RdS.len e1
                obtain ⟨na8, nc8, rfl, _⟩ := RdS.len e2
                obtain ⟨sa8, sc8, rfl, _⟩ := RdS.len e3
                obtain ⟨ka8, kc8, rfl, _⟩ := RdS.len e4
                obtain ⟨x0, x1, x2, x3, x4, x5, x6⟩ := P7.of e0
                have E0 := Lib.hid e0
                have E1 := Lib.hid e1
                have E3 := Lib.hid e3
                have E4 := Lib.hid e4
                have hfz : ∀ i, w8.frozen? ⟨w.heap.size, i, none⟩ = false := fun i => Lib.frozen_of_heap e0 _
                have hgx : w.heap.size < w8.heap.size := lt_of_heap e0
                clear e0 e1 e2 e3 e4
                by_cases hh : c.held = []
                · have t2 := len0_true hh
                  have hr := hr'.out
                  rw [if_pos hh] at hr
                  cases hr
                  have hss : ({ c with base := (applyP c.base m.e.o).1, rev := c.rev + 1, sent := c.held, held := [] } : Cl) = { c with base := (applyP c.base m.e.o).1, rev := c.rev + 1, sent := [], held := [] } := by rw [hh]
                  have H8' := Lib.hid (hss ▸ H8.out)
                  clear hh hss hr' H8
                  go_wp2_with fail
                  refine (cloneDoc_any _ _ (applyP c.base m.e.o).1 w8 A8.out hlen.out).mono ?_
                  rintro e w9 ⟨u9, rfl, hu, hb9⟩
                  obtain ⟨ua, uc, rfl, _⟩ := RdS.len hu.rd
                  have H9 := Lib.hid (H8'.out.below hb9)
                  have U9 := Lib.hid (RItems.to hu.rd (fun i hi hl => ⟨H8'.out.2.1 i hi, rfl⟩) : RItems (fun k => k ≠ w.heap.size ∧ k ≠ w.heap.size + 1 ∧ k ≠ w.heap.size + 2) w9 (.slice ua (applyP c.base m.e.o).1.length uc) (applyP c.base m.e.o).1)
                  have H10 := Lib.hid (H9.out.set2 U9.out)
                  have K10 := Lib.hid ((K8.out.below hb9).stays (fun h => h.1 rfl) (Stays.set (i := 2) (u := .slice ua (applyP c.base m.e.o).1.length uc)))
                  have E09 := Lib.hid ((hb9.block _ hgx).trans E0.out)
                  clear x0 x1 x2 x3 x4 x5 x6 hfz hu hb9 hgx E0 E1 E3 E4 K8 A8 H8' H9 U9
                  obtain ⟨x0, x1, x2, x3, x4, x5, x6⟩ := P7.of E09.out
                  have hfz : ∀ i, w9.frozen? ⟨w.heap.size, i, none⟩ = false := fun i => Lib.frozen_of_heap E09.out _
                  have hgx : w.heap.size < w9.heap.size := lt_of_heap E09.out
                  go_upto_region 24 with fail
                  refine name_world ?_
                  intro w10 hW10
                  rw [hW10] at H10 K10
                  clear hW10 x0 x1 x2 x3 x4 x5 x6 hfz hgx E09
                  obtain ⟨b9, n9, s9, k9, h0, hR⟩ := H10.out.val
                  obtain ⟨m1, m2, m3, m4, m5, m6, m7, m8, rfl, rfl, rfl, rfl⟩ := rcl_shape hR
                  obtain ⟨y0, y1, y2, y3, y4, y5, y6⟩ := P7.of K10.out.Z
                  obtain ⟨x0, x1, x2, x3, x4, x5, x6⟩ := P7.of h0
                  have hfz2 : ∀ i, w10.frozen? ⟨w.heap.size + 2, i, none⟩ = false := fun i => Lib.frozen_of_heap K10.out.Z _
                  have hzz := lt_of_heap K10.out.Z
                  have hR' := Lib.hid hR
                  clear hR h0
                  go_wp2
                  obtain ⟨q1, q2⟩ := set7z K10.out.Z (.int .i64 ({ c with base := (applyP c.base m.e.o).1, rev := c.rev + 1, sent := [], held := [], now := (applyP c.base m.e.o).1 } : Cl).rev) (.slice m1 ({ c with base := (applyP c.base m.e.o).1, rev := c.rev + 1, sent := [], held := [], now := (applyP c.base m.e.o).1 } : Cl).base.length m2) (.slice m3 ({ c with base := (applyP c.base m.e.o).1, rev := c.rev + 1, sent := [], held := [], now := (applyP c.base m.e.o).1 } : Cl).now.length m4) (.int .i64 ({ c with base := (applyP c.base m.e.o).1, rev := c.rev + 1, sent := [], held := [], now := (applyP c.base m.e.o).1 } : Cl).seq) (.slice m5 ({ c with base := (applyP c.base m.e.o).1, rev := c.rev + 1, sent := [], held := [], now := (applyP c.base m.e.o).1 } : Cl).sent.length m6) (.slice m7 ({ c with base := (applyP c.base m.e.o).1, rev := c.rev + 1, sent := [], held := [], now := (applyP c.base m.e.o).1 } : Cl).held.length m8) (.bool ({ c with base := (applyP c.base m.e.o).1, rev := c.rev + 1, sent := [], held := [], now := (applyP c.base m.e.o).1 } : Cl).joined)
                  generalize hwz : (((((((w10.setCell ⟨w.heap.size + 2, 0, none⟩ _).setCell ⟨w.heap.size + 2, 1, none⟩ _).setCell ⟨w.heap.size + 2, 2, none⟩ _).setCell ⟨w.heap.size + 2, 3, none⟩ _).setCell ⟨w.heap.size + 2, 4, none⟩ _).setCell ⟨w.heap.size + 2, 5, none⟩ _).setCell ⟨w.heap.size + 2, 6, none⟩ _) = wz at *
                  obtain ⟨z0, z1, z2, z3, z4, z5, z6⟩ := P7.of q1
                  exact bodyPost_ret (v := .tuple #[.agg #[.int .i64 ({ c with base := (applyP c.base m.e.o).1, rev := c.rev + 1, sent := [], held := [], now := (applyP c.base m.e.o).1 } : Cl).rev, .slice m1 ({ c with base := (applyP c.base m.e.o).1, rev := c.rev + 1, sent := [], held := [], now := (applyP c.base m.e.o).1 } : Cl).base.length m2, .slice m3 ({ c with base := (applyP c.base m.e.o).1, rev := c.rev + 1, sent := [], held := [], now := (applyP c.base m.e.o).1 } : Cl).now.length m4, .int .i64 ({ c with base := (applyP c.base m.e.o).1, rev := c.rev + 1, sent := [], held := [], now := (applyP c.base m.e.o).1 } : Cl).seq, .slice m5 ({ c with base := (applyP c.base m.e.o).1, rev := c.rev + 1, sent := [], held := [], now := (applyP c.base m.e.o).1 } : Cl).sent.length m6, .slice m7 ({ c with base := (applyP c.base m.e.o).1, rev := c.rev + 1, sent := [], held := [], now := (applyP c.base m.e.o).1 } : Cl).held.length m8, .bool ({ c with base := (applyP c.base m.e.o).1, rev := c.rev + 1, sent := [], held := [], now := (applyP c.base m.e.o).1 } : Cl).joined], .bool false, .int .i64 0]) (by simp [results, Try.results64, go_sem, z0, z1, z2, z3, z4, z5, z6]) rfl ⟨_, rfl, RCl.to hR'.out (fun i hi hl => ⟨trivial, q2.same i hl hi.2.2⟩), K10.out.B.trans (q2.bel.mono (by omega))⟩
                · have t2 := len0_false hh
                  by_cases hq : c.seq = 10000
                  · have t3 : (c.seq == 10000) = true := by simpa using hq
                    have hr := hr'.out
                    rw [if_neg hh, if_pos (Or.inl hq)] at hr
                    simp only [Prod.mk.injEq] at hr
                    obtain ⟨hr1, rfl, rfl⟩ := hr
                    have hR1 := Lib.hid hr1
                    clear hr1
                    clear hh hq hr'
                    go_wp2_with fail
                    refine (clGive_any _ _ _ w8 H8.out hlen.out).mono ?_
                    rintro e w9 ⟨rfl, H9', S9⟩
                    have H9 : Hid (CAt 87 (fun k => k ≠ w.heap.size ∧ k ≠ w.heap.size + 1 ∧ k ≠ w.heap.size + 2) w9 w.heap.size R1) := Lib.hid (by rw [← hR1.out]; exact H9')
                    have K9 := Lib.hid (K8.out.stays (fun h => h.1 rfl) S9)
                    clear x0 x1 x2 x3 x4 x5 x6 hfz H9' S9 K8 H8 E0 E1 E3 E4 hgx
                    obtain ⟨b9, n9, s9, k9, h0, hR⟩ := H9.out.val
                    obtain ⟨m1, m2, m3, m4, m5, m6, m7, m8, rfl, rfl, rfl, rfl⟩ := rcl_shape hR
                    obtain ⟨y0, y1, y2, y3, y4, y5, y6⟩ := P7.of K9.out.Z
                    obtain ⟨x0, x1, x2, x3, x4, x5, x6⟩ := P7.of h0
                    have hfz2 : ∀ i, w9.frozen? ⟨w.heap.size + 2, i, none⟩ = false := fun i => Lib.frozen_of_heap K9.out.Z _
                    have hzz := lt_of_heap K9.out.Z
                    have hR' := Lib.hid hR
                    clear hR h0
                    go_wp2
                    obtain ⟨q1, q2⟩ := set7z K9.out.Z (.int .i64 (R1).rev) (.slice m1 (R1).base.length m2) (.slice m3 (R1).now.length m4) (.int .i64 (R1).seq) (.slice m5 (R1).sent.length m6) (.slice m7 (R1).held.length m8) (.bool (R1).joined)
                    generalize hwz : (((((((w9.setCell ⟨w.heap.size + 2, 0, none⟩ _).setCell ⟨w.heap.size + 2, 1, none⟩ _).setCell ⟨w.heap.size + 2, 2, none⟩ _).setCell ⟨w.heap.size + 2, 3, none⟩ _).setCell ⟨w.heap.size + 2, 4, none⟩ _).setCell ⟨w.heap.size + 2, 5, none⟩ _).setCell ⟨w.heap.size + 2, 6, none⟩ _) = wz at *
                    obtain ⟨z0, z1, z2, z3, z4, z5, z6⟩ := P7.of q1
                    exact bodyPost_ret (v := .tuple #[.agg #[.int .i64 (R1).rev, .slice m1 (R1).base.length m2, .slice m3 (R1).now.length m4, .int .i64 (R1).seq, .slice m5 (R1).sent.length m6, .slice m7 (R1).held.length m8, .bool (R1).joined], .bool false, .int .i64 0]) (by simp [results, Try.results64, go_sem, z0, z1, z2, z3, z4, z5, z6]) rfl ⟨_, rfl, RCl.to hR'.out (fun i hi hl => ⟨trivial, q2.same i hl hi.2.2⟩), K9.out.B.trans (q2.bel.mono (by omega))⟩
                  · have t3 : (c.seq == 10000) = false := by simpa using hq
                    have C2 := Lib.hid (opApply_any _ _ _ _ (applyP c.base m.e.o).1 c.held w8 A8.out E3.out)
                    by_cases he2 : (applyP (applyP c.base m.e.o).1 c.held).2 = 0
                    · have hr := hr'.out
                      rw [if_neg hh, if_neg (fun h => by rcases h with h | h; exact hq h; exact h he2)] at hr
                      simp only [Prod.mk.injEq] at hr
                      obtain ⟨hr1, rfl, rfl⟩ := hr
                      have hR1 := Lib.hid hr1
                      clear hr1
                      rw [he2] at C2
                      have hws : IntKind.i64.wrap (c.seq + 1) = c.seq + 1 := IntWalk.i64_in _ (by have := hok.out.s0; have := hok.out.s1; omega)
                      clear hh hq hr' he2
                      go_wp2_with fail
                      refine C2.out.mono ?_
                      rintro e w9 ⟨r9, rfl, hr9, hb9⟩
                      obtain ⟨ua, uc, rfl, _⟩ := RdS.len hr9
                      have H9 := Lib.hid (H8.out.below hb9)
                      have U9 := Lib.hid (RItems.to hr9 (fun i hi hl => ⟨H8.out.2.1 i hi, rfl⟩) : RItems (fun k => k ≠ w.heap.size ∧ k ≠ w.heap.size + 1 ∧ k ≠ w.heap.size + 2) w9 (.slice ua (applyP (applyP c.base m.e.o).1 c.held).1.length uc) (applyP (applyP c.base m.e.o).1 c.held).1)
                      have H10 := Lib.hid ((H9.out.set2 U9.out).set3 (c.seq + 1))
                      have K10 := Lib.hid ((K8.out.below hb9).stays (fun h => h.1 rfl) ((Stays.set (i := 2) (u := .slice ua (applyP (applyP c.base m.e.o).1 c.held).1.length uc)).trans (Stays.set (i := 3) (u := .int .i64 (c.seq + 1)))))
                      have E09 := Lib.hid ((hb9.block _ hgx).trans E0.out)
                      clear x0 x1 x2 x3 x4 x5 x6 hfz hr9 hb9 hgx E0 E1 E3 E4 K8 A8 H8 H9 U9 C2
                      obtain ⟨x0, x1, x2, x3, x4, x5, x6⟩ := P7.of E09.out
                      have hfz : ∀ i, w9.frozen? ⟨w.heap.size, i, none⟩ = false := fun i => Lib.frozen_of_heap E09.out _
                      have hgx : w.heap.size < w9.heap.size := lt_of_heap E09.out
                      go_upto_region 34 with fail
                      refine name_world ?_
                      intro w10 hW10
                      rw [hW10] at H10 K10
                      have H11 : Hid (CAt 87 (fun k => k ≠ w.heap.size ∧ k ≠ w.heap.size + 1 ∧ k ≠ w.heap.size + 2) w10 w.heap.size R1) := Lib.hid (by rw [← hR1.out]; exact H10.out)
                      clear H10 hW10 x0 x1 x2 x3 x4 x5 x6 hfz hgx E09
                      obtain ⟨b9, n9, s9, k9, h0, hR⟩ := H11.out.val
                      obtain ⟨m1, m2, m3, m4, m5, m6, m7, m8, rfl, rfl, rfl, rfl⟩ := rcl_shape hR
                      obtain ⟨y0, y1, y2, y3, y4, y5, y6⟩ := P7.of K10.out.Z
                      obtain ⟨x0, x1, x2, x3, x4, x5, x6⟩ := P7.of h0
                      have hfz2 : ∀ i, w10.frozen? ⟨w.heap.size + 2, i, none⟩ = false := fun i => Lib.frozen_of_heap K10.out.Z _
                      have hzz := lt_of_heap K10.out.Z
                      have hR' := Lib.hid hR
                      clear hR h0
                      go_wp2
                      obtain ⟨q1, q2⟩ := set7z K10.out.Z (.int .i64 (R1).rev) (.slice m1 (R1).base.length m2) (.slice m3 (R1).now.length m4) (.int .i64 (R1).seq) (.slice m5 (R1).sent.length m6) (.slice m7 (R1).held.length m8) (.bool (R1).joined)
                      generalize hwz : (((((((w10.setCell ⟨w.heap.size + 2, 0, none⟩ _).setCell ⟨w.heap.size + 2, 1, none⟩ _).setCell ⟨w.heap.size + 2, 2, none⟩ _).setCell ⟨w.heap.size + 2, 3, none⟩ _).setCell ⟨w.heap.size + 2, 4, none⟩ _).setCell ⟨w.heap.size + 2, 5, none⟩ _).setCell ⟨w.heap.size + 2, 6, none⟩ _) = wz at *
                      obtain ⟨z0, z1, z2, z3, z4, z5, z6⟩ := P7.of q1
                      exact bodyPost_ret (v := .tuple #[.agg #[.int .i64 (R1).rev, .slice m1 (R1).base.length m2, .slice m3 (R1).now.length m4, .int .i64 (R1).seq, .slice m5 (R1).sent.length m6, .slice m7 (R1).held.length m8, .bool (R1).joined], .bool true, .int .i64 0]) (by simp [results, Try.results64, go_sem, z0, z1, z2, z3, z4, z5, z6]) rfl ⟨_, rfl, RCl.to hR'.out (fun i hi hl => ⟨trivial, q2.same i hl hi.2.2⟩), K10.out.B.trans (q2.bel.mono (by omega))⟩
                    · have hr := hr'.out
                      rw [if_neg hh, if_pos (Or.inr he2)] at hr
                      simp only [Prod.mk.injEq] at hr
                      obtain ⟨hr1, rfl, rfl⟩ := hr
                      have hR1 := Lib.hid hr1
                      clear hr1
                      have he2' : ((applyP (applyP c.base m.e.o).1 c.held).2 != 0) = true := by simpa using he2
                      clear hh hq hr' he2
                      go_wp2_with fail
                      refine C2.out.mono ?_
                      rintro e w9 ⟨r9, rfl, hr9, hb9⟩
                      have H9 := Lib.hid (H8.out.below hb9)
                      have K9 := Lib.hid (K8.out.below hb9)
                      clear x0 x1 x2 x3 x4 x5 x6 hfz hr9 hb9 hgx E0 E1 E3 E4 K8 A8 H8 C2
                      go_wp2_with fail
                      refine (clGive_any _ _ _ w9 H9.out hlen.out).mono ?_
                      rintro e w10 ⟨rfl, H10', S10⟩
                      have H10 : Hid (CAt 87 (fun k => k ≠ w.heap.size ∧ k ≠ w.heap.size + 1 ∧ k ≠ w.heap.size + 2) w10 w.heap.size R1) := Lib.hid (by rw [← hR1.out]; exact H10')
                      have K10 := Lib.hid (K9.out.stays (fun h => h.1 rfl) S10)
                      clear H10' S10 K9 H9
                      obtain ⟨b9, n9, s9, k9, h0, hR⟩ := H10.out.val
                      obtain ⟨m1, m2, m3, m4, m5, m6, m7, m8, rfl, rfl, rfl, rfl⟩ := rcl_shape hR
                      obtain ⟨y0, y1, y2, y3, y4, y5, y6⟩ := P7.of K10.out.Z
                      obtain ⟨x0, x1, x2, x3, x4, x5, x6⟩ := P7.of h0
                      have hfz2 : ∀ i, w10.frozen? ⟨w.heap.size + 2, i, none⟩ = false := fun i => Lib.frozen_of_heap K10.out.Z _
                      have hzz := lt_of_heap K10.out.Z
                      have hR' := Lib.hid hR
                      clear hR h0
                      go_wp2
                      obtain ⟨q1, q2⟩ := set7z K10.out.Z (.int .i64 (R1).rev) (.slice m1 (R1).base.length m2) (.slice m3 (R1).now.length m4) (.int .i64 (R1).seq) (.slice m5 (R1).sent.length m6) (.slice m7 (R1).held.length m8) (.bool (R1).joined)
                      generalize hwz : (((((((w10.setCell ⟨w.heap.size + 2, 0, none⟩ _).setCell ⟨w.heap.size + 2, 1, none⟩ _).setCell ⟨w.heap.size + 2, 2, none⟩ _).setCell ⟨w.heap.size + 2, 3, none⟩ _).setCell ⟨w.heap.size + 2, 4, none⟩ _).setCell ⟨w.heap.size + 2, 5, none⟩ _).setCell ⟨w.heap.size + 2, 6, none⟩ _) = wz at *
                      obtain ⟨z0, z1, z2, z3, z4, z5, z6⟩ := P7.of q1
                      exact bodyPost_ret (v := .tuple #[.agg #[.int .i64 (R1).rev, .slice m1 (R1).base.length m2, .slice m3 (R1).now.length m4, .int .i64 (R1).seq, .slice m5 (R1).sent.length m6, .slice m7 (R1).held.length m8, .bool (R1).joined], .bool false, .int .i64 0]) (by simp [results, Try.results64, go_sem, z0, z1, z2, z3, z4, z5, z6]) rfl ⟨_, rfl, RCl.to hR'.out (fun i hi hl => ⟨trivial, q2.same i hl hi.2.2⟩), K10.out.B.trans (q2.bel.mono (by omega))⟩
              · have hr := hres.out
                rw [hearC, if_neg (by simpa using hck'.out), if_neg ho, if_neg (by simpa using hk'.out), if_neg hbq, if_neg (not_not_intro hown), if_pos he] at hr
                cases hr
                have he' : ((applyP c.base m.e.o).2 != 0) = true := by simpa using he
                clear hres ho hbq hown he
                go_wp2_with fail
                refine C.out.mono ?_
                rintro e w7 ⟨r7, rfl, hr7, hb7⟩
                have K7 := Lib.hid (K6.out.below hb7)
                clear x0 x1 x2 x3 x4 x5 x6 u0 u1 u2 u3 hfz C K6 H6 E0 E1 E3 E4 hr7 hb7 hgx
                obtain ⟨y0, y1, y2, y3, y4, y5, y6⟩ := P7.of K7.out.Z
                have hfz2 : ∀ i, w7.frozen? ⟨w.heap.size + 2, i, none⟩ = false := fun i => Lib.frozen_of_heap K7.out.Z _
                have hzz := lt_of_heap K7.out.Z
                go_wp2
                obtain ⟨q1, q2⟩ := set7z K7.out.Z (.int .i64 0) (.slice none 0 0) (.slice none 0 0) (.int .i64 0) (.slice none 0 0) (.slice none 0 0) (.bool false)
                generalize hwz : (((((((w7.setCell ⟨w.heap.size + 2, 0, none⟩ (.int .i64 0)).setCell ⟨w.heap.size + 2, 1, none⟩ (.slice none 0 0)).setCell ⟨w.heap.size + 2, 2, none⟩ (.slice none 0 0)).setCell ⟨w.heap.size + 2, 3, none⟩ (.int .i64 0)).setCell ⟨w.heap.size + 2, 4, none⟩ (.slice none 0 0)).setCell ⟨w.heap.size + 2, 5, none⟩ (.slice none 0 0)).setCell ⟨w.heap.size + 2, 6, none⟩ (.bool false)) = wz at *
                obtain ⟨z0, z1, z2, z3, z4, z5, z6⟩ := P7.of q1
                exact bodyPost_ret (v := .tuple #[.agg #[.int .i64 0, .slice none 0 0, .slice none 0 0, .int .i64 0, .slice none 0 0, .slice none 0 0, .bool false], .bool false, .int .i64 (applyP c.base m.e.o).2]) (by simp [results, Try.results64, go_sem, z0, z1, z2, z3, z4, z5, z6]) rfl ⟨_, rfl, RCl.zero, K7.out.B.trans (q2.bel.mono (by omega))⟩
            · have hr := hres.out
              rw [hearC, if_neg (by simpa using hck'.out), if_neg ho, if_neg (by simpa using hk'.out), if_neg hbq, if_pos hown] at hr
              cases hr
              obtain rfl : ow = false := how.out.symm.trans (decide_eq_false hown)
              clear hres ho hbq hown
              have hT : ∀ k, ¬ (fun k => k ≠ w.heap.size ∧ k ≠ w.heap.size + 1 ∧ k ≠ w.heap.size + 2) k → k = w.heap.size ∨ ∃ xs fr T', w6.heap[k]? = some (.cells xs T' fr) ∧ T' ≠ 42 := fun k hk => by
                by_cases k0 : k = w.heap.size
                · exact Or.inl k0
                · by_cases k1 : k = w.heap.size + 1
                  · exact Or.inr ⟨_, _, _, by rw [k1]; exact K6.out.M, by decide⟩
                  · by_cases k2 : k = w.heap.size + 2
                    · exact Or.inr ⟨_, _, _, by rw [k2]; exact K6.out.Z, by decide⟩
                    · exact absurd ⟨k0, k1, k2⟩ hk
              have C := Lib.hid (clOther_any _ _ _ c m.e.o w6 H6.out K6.out.V hT hok.out.r0 hok.out.r60)
              clear hT
              go_wp2_with fail
              refine C.out.mono ?_
              rintro e w7 ⟨rfl, H7', S7⟩
              have H7 := Lib.hid H7'
              have K7 := Lib.hid (K6.out.stays (fun h => h.1 rfl) S7)
              clear x0 x1 x2 x3 x4 x5 x6 u0 u1 u2 u3 hfz H7' S7 K6 H6 C E0 E1 E3 E4 hgx
              obtain ⟨b9, n9, s9, k9, h0, hR⟩ := H7.out.val
              obtain ⟨m1, m2, m3, m4, m5, m6, m7, m8, rfl, rfl, rfl, rfl⟩ := rcl_shape hR
              obtain ⟨y0, y1, y2, y3, y4, y5, y6⟩ := P7.of K7.out.Z
              obtain ⟨x0, x1, x2, x3, x4, x5, x6⟩ := P7.of h0
              have hfz2 : ∀ i, w7.frozen? ⟨w.heap.size + 2, i, none⟩ = false := fun i => Lib.frozen_of_heap K7.out.Z _
              have hzz := lt_of_heap K7.out.Z
              have hR' := Lib.hid hR
              clear hR h0
              go_wp2
              obtain ⟨q1, q2⟩ := set7z K7.out.Z (.int .i64 (otherC c m.e.o).rev) (.slice m1 (otherC c m.e.o).base.length m2) (.slice m3 (otherC c m.e.o).now.length m4) (.int .i64 (otherC c m.e.o).seq) (.slice m5 (otherC c m.e.o).sent.length m6) (.slice m7 (otherC c m.e.o).held.length m8) (.bool (otherC c m.e.o).joined)
              generalize hwz : (((((((w7.setCell ⟨w.heap.size + 2, 0, none⟩ _).setCell ⟨w.heap.size + 2, 1, none⟩ _).setCell ⟨w.heap.size + 2, 2, none⟩ _).setCell ⟨w.heap.size + 2, 3, none⟩ _).setCell ⟨w.heap.size + 2, 4, none⟩ _).setCell ⟨w.heap.size + 2, 5, none⟩ _).setCell ⟨w.heap.size + 2, 6, none⟩ _) = wz at *
              obtain ⟨z0, z1, z2, z3, z4, z5, z6⟩ := P7.of q1
              exact bodyPost_ret (v := .tuple #[.agg #[.int .i64 (otherC c m.e.o).rev, .slice m1 (otherC c m.e.o).base.length m2, .slice m3 (otherC c m.e.o).now.length m4, .int .i64 (otherC c m.e.o).seq, .slice m5 (otherC c m.e.o).sent.length m6, .slice m7 (otherC c m.e.o).held.length m8, .bool (otherC c m.e.o).joined], .bool false, .int .i64 0]) (by simp [results, Try.results64, go_sem, z0, z1, z2, z3, z4, z5, z6]) rfl ⟨_, rfl, RCl.to hR'.out (fun i hi hl => ⟨trivial, q2.same i hl hi.2.2⟩), K7.out.B.trans (q2.bel.mono (by omega))⟩
        · have hr := hres.out
          rw [hearC, if_neg (by simpa using hck'.out), if_neg ho, if_pos hk] at hr
          cases hr
          have hk' : (chkOp m.e.o != 0) = true := by simpa using hk
          clear hres ho hk
          obtain ⟨y0, y1, y2, y3, y4, y5, y6⟩ := P7.of K6.out.Z
          have hfz2 : ∀ i, w6.frozen? ⟨w.heap.size + 2, i, none⟩ = false := fun i => Lib.frozen_of_heap K6.out.Z _
          have hzz := lt_of_heap K6.out.Z
          go_wp2
          obtain ⟨q1, q2⟩ := set7z K6.out.Z (.int .i64 0) (.slice none 0 0) (.slice none 0 0) (.int .i64 0) (.slice none 0 0) (.slice none 0 0) (.bool false)
          generalize hwz : (((((((w6.setCell ⟨w.heap.size + 2, 0, none⟩ (.int .i64 0)).setCell ⟨w.heap.size + 2, 1, none⟩ (.slice none 0 0)).setCell ⟨w.heap.size + 2, 2, none⟩ (.slice none 0 0)).setCell ⟨w.heap.size + 2, 3, none⟩ (.int .i64 0)).setCell ⟨w.heap.size + 2, 4, none⟩ (.slice none 0 0)).setCell ⟨w.heap.size + 2, 5, none⟩ (.slice none 0 0)).setCell ⟨w.heap.size + 2, 6, none⟩ (.bool false)) = wz at *
          obtain ⟨z0, z1, z2, z3, z4, z5, z6⟩ := P7.of q1
          exact bodyPost_ret (v := .tuple #[.agg #[.int .i64 0, .slice none 0 0, .slice none 0 0, .int .i64 0, .slice none 0 0, .slice none 0 0, .bool false], .bool false, .int .i64 (chkOp m.e.o)]) (by simp [results, Try.results64, go_sem, z0, z1, z2, z3, z4, z5, z6]) rfl ⟨_, rfl, RCl.zero, K6.out.B.trans (q2.bel.mono (by omega))⟩
  · have hr := hres.out
    rw [hearC, if_pos hck] at hr
    cases hr
    have hck' : (chkCl c != 0) = true := by simpa using hck
    clear hck hres
    obtain ⟨y0, y1, y2, y3, y4, y5, y6⟩ := P7.of K2.out.Z
    have hfz2 : ∀ i, w2.frozen? ⟨w.heap.size + 2, i, none⟩ = false := fun i => Lib.frozen_of_heap K2.out.Z _
    have hzz := lt_of_heap K2.out.Z
    go_wp2
    obtain ⟨q1, q2⟩ := set7z K2.out.Z (.int .i64 0) (.slice none 0 0) (.slice none 0 0) (.int .i64 0) (.slice none 0 0) (.slice none 0 0) (.bool false)
    generalize hwz : (((((((w2.setCell ⟨w.heap.size + 2, 0, none⟩ (.int .i64 0)).setCell ⟨w.heap.size + 2, 1, none⟩ (.slice none 0 0)).setCell ⟨w.heap.size + 2, 2, none⟩ (.slice none 0 0)).setCell ⟨w.heap.size + 2, 3, none⟩ (.int .i64 0)).setCell ⟨w.heap.size + 2, 4, none⟩ (.slice none 0 0)).setCell ⟨w.heap.size + 2, 5, none⟩ (.slice none 0 0)).setCell ⟨w.heap.size + 2, 6, none⟩ (.bool false)) = wz at *
    obtain ⟨z0, z1, z2, z3, z4, z5, z6⟩ := P7.of q1
    exact bodyPost_ret (v := .tuple #[.agg #[.int .i64 0, .slice none 0 0, .slice none 0 0, .int .i64 0, .slice none 0 0, .slice none 0 0, .bool false], .bool false, .int .i64 (chkCl c)]) (by simp [results, Try.results64, go_sem, z0, z1, z2, z3, z4, z5, z6]) rfl ⟨_, rfl, RCl.zero, K2.out.B.trans (q2.bel.mono (by omega))⟩
end Go.Proofs.Ytgodceplajkcdaa
