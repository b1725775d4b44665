/- The reference ClientHears, of a right client. -/
import Derived.Test.YtgodceplajkcdaaRefK
import Derived.Test.YtgodceplajkcdaaRefV
import Derived.Test.YtgodceplajkcdaaClH
namespace Go.Mh
open Go.RowKit
section
variable {F : Nat → Prop} {w : World} {r b n q s k j : Value} {c : Cl}
theorem rcl_base (h : RCl F w (.agg #[r, b, n, q, s, k, j]) c) : RItems F w b c.base := by
  obtain ⟨_, _, _, _, e, h1, _⟩ := h; simp at e; obtain ⟨_, rfl, _⟩ := e; exact h1
theorem rcl_sent (h : RCl F w (.agg #[r, b, n, q, s, k, j]) c) : ROp F w s c.sent := by
  obtain ⟨_, _, _, _, e, _, _, h1, _⟩ := h; simp at e; obtain ⟨_, _, _, _, rfl, _⟩ := e; exact h1
theorem rcl_held (h : RCl F w (.agg #[r, b, n, q, s, k, j]) c) : ROp F w k c.held := by
  obtain ⟨_, _, _, _, e, _, _, _, h1⟩ := h; simp at e; obtain ⟨_, _, _, _, _, rfl, _⟩ := e; exact h1
theorem rcl_now (h : RCl F w (.agg #[r, b, n, q, s, k, j]) c) : RItems F w n c.now := by
  obtain ⟨_, _, _, _, e, _, h1, _⟩ := h; simp at e; obtain ⟨_, _, rfl, _⟩ := e; exact h1
end
theorem wrap_sub {x r : Int} (h0 : -9223372036854775808 ≤ x) (h1 : x ≤ 9223372036854775807) (r0 : 0 ≤ r) (r1 : r ≤ 60) : wrap64 (x - 1) = r ↔ x = r + 1 := by
  unfold wrap64; omega
theorem owns2_eq {d : List It} {s k : List Pt} (h : s = [] → k = []) : owns2 d s k = ownsP d s k := by
  unfold owns2 ownsP
  by_cases hs : s = []
  · rw [if_pos hs, if_pos hs, if_pos (h hs)]
  · rw [if_neg hs, if_neg hs]
theorem other_some {c : Cl} {o s k : List Pt} (h : (applyP c.base o).2 = 0) (ht : turn2 o c.sent c.held = some (s, k)) :
    otherC c o = if (owns2 (applyP c.base o).1 s k).2 ≠ 0 then giveC { c with base := (applyP c.base o).1, rev := c.rev + 1 } else { c with base := (applyP c.base o).1, rev := c.rev + 1, sent := s, held := k, now := (owns2 (applyP c.base o).1 s k).1 } := by
  simp only [otherC, h, ht]; simp
end Go.Mh
namespace Go.Proofs.Ytgodceplajkcdaa
open Go.RowKit Go.Mh

set_option maxRecDepth 100000 in
set_option maxHeartbeats 16000000 in
theorem refHear_any (F G : Nat → Prop) (v ov : Value) (c : Cl) (who : Int) (m : Msg) (w : World) (h : RCl F w v c) (g : ROp G w ov m.e.o) (hok : ClOk c) (hm0 : -9223372036854775808 ≤ m.rev) (hm1 : m.rev ≤ 9223372036854775807) :
    Calls Try.prog 71 #[v, .int .i64 who, .agg #[.int .i64 m.rev, .int .i64 m.e.client, .int .i64 m.e.seq, ov]] w fun e w' => ∃ v', e = .returned (.tuple #[v', .bool (hearC c who m).2.1, .int .i64 (hearC c who m).2.2]) ∧ RCl (fun _ => True) w' v' (hearC c who m).1 ∧ Below w.heap.size w w' := by
  have hh := RCl.to h (Kp.lt w)
  have gg := ROp.to g (Kp.lt w)
  clear h g
  obtain ⟨b, n, s, k, rfl, h1, h2, h3, h4⟩ := id hh
  obtain ⟨ba, bc, rfl, _⟩ := RdS.len h1
  obtain ⟨na, nc, rfl, _⟩ := RdS.len h2
  obtain ⟨sa, sc, rfl, _⟩ := RdS.len h3
  obtain ⟨ka, kc, rfl, _⟩ := RdS.len h4
  obtain ⟨oa, oc, rfl, _⟩ := RdS.len gg
  have V := Lib.hid gg
  clear gg
  obtain ⟨w1, hw1⟩ : ∃ w1, w1 = ((w.alloc (.cells #[.int .i64 c.rev, .slice ba c.base.length bc, .slice na c.now.length nc, .int .i64 c.seq, .slice sa c.sent.length sc, .slice ka c.held.length kc, .bool c.joined] 87)).alloc (.cells #[.int .i64 m.rev, .int .i64 m.e.client, .int .i64 m.e.seq, .slice oa m.e.o.length oc] 89)).alloc clZero := ⟨_, rfl⟩
  have hb1 : Below w.heap.size w w1 := by rw [hw1]; exact bal (bal (bal (brf w) _) _) _
  have hG1 : w1.heap[w.heap.size]? = some (.cells #[.int .i64 c.rev, .slice ba c.base.length bc, .slice na c.now.length nc, .int .i64 c.seq, .slice sa c.sent.length sc, .slice ka c.held.length kc, .bool c.joined] 87 (0, 0)) := by rw [hw1]; exact heap_at3 rfl
  have hZ1 : w1.heap[w.heap.size + 2]? = some clZero := by rw [hw1]; exact heap_at (by simp)
  have kp1 : ∀ (E : Nat → Prop), Kp (fun k => E k ∧ k < w.heap.size) (fun k => k ≠ w.heap.size ∧ k ≠ w.heap.size + 1 ∧ k ≠ w.heap.size + 2) w w1 := fun E i hi hl => ⟨by have := hi.2; exact ⟨by omega, by omega, by omega⟩, hb1.block i hi.2⟩
  have K1 := Lib.hid (⟨by rw [hw1]; exact heap_at2 (by simp), hZ1, ROp.to V.out (kp1 _), hb1⟩ : HrS 87 89 (fun k => k ≠ w.heap.size ∧ k ≠ w.heap.size + 1 ∧ k ≠ w.heap.size + 2) w w1 (.slice oa m.e.o.length oc) m)
  have hs1 := lt_of_heap hZ1
  have H1 : Hid (CAt 87 (fun k => k ≠ w.heap.size ∧ k ≠ w.heap.size + 1 ∧ k ≠ w.heap.size + 2) w1 w.heap.size c) := Lib.hid ⟨fun h => h.1 rfl, fun k hk => ⟨by omega, by omega, by omega⟩, _, _, _, _, hG1, RItems.to h1 (kp1 _), RItems.to h2 (kp1 _), ROp.to h3 (kp1 _), ROp.to h4 (kp1 _)⟩
  have nF : ¬ (fun k => k ≠ w.heap.size ∧ k ≠ w.heap.size + 1 ∧ k ≠ w.heap.size + 2) w.heap.size := fun h => h.1 rfl
  obtain ⟨⟨R1, R2, R3⟩, hres⟩ : ∃ r, Hid (hearC c who m = r) := ⟨_, Lib.hid rfl⟩
  rw [hres.out]
  have hck := Lib.hid hok.chk
  have hok' := Lib.hid hok
  have hr0 : 0 ≤ c.rev := hok.r0
  have hr60 : c.rev ≤ 60 := hok.r60
  have hsh := Lib.hid (fun (h : c.sent = []) => (by rcases hok.cases with ⟨_, e, _⟩ | ⟨e, _⟩ | ⟨e, _⟩; exact e; exact absurd h e; exact absurd h e : c.held = []))
  have hwr : IntKind.i64.wrap (c.rev + 1) = c.rev + 1 := IntWalk.i64_in _ (by omega)
  have hws : IntKind.i64.wrap (c.seq + 1) = c.seq + 1 := IntWalk.i64_in _ (by have := hok.s0; have := hok.s1; omega)
  have hwm := Lib.hid (wrap_sub hm0 hm1 hr0 hr60)
  clear hok hm0 hm1 h1 h2 h3 h4 hh kp1 hG1 hZ1 hb1 V
  go_enter Try.func71, Try.ntmps71
  go_upto_region 1 with fail
  rw [← hw1]
  clear hw1
  obtain ⟨b9, n9, s9, k9, h0, hR⟩ := H1.out.val
  obtain ⟨m1, m2, m3, m4, m5, m6, m7, m8, rfl, rfl, rfl, rfl⟩ := rcl_shape hR
  obtain ⟨x0, x1, x2, x3, x4, x5, x6⟩ := P7.of h0
  have hfz : ∀ i, w1.frozen? ⟨w.heap.size, i, none⟩ = false := fun i => Lib.frozen_of_heap h0 _
  have hgx : w.heap.size < w1.heap.size := lt_of_heap h0
  have hR' := Lib.hid hR
  have E0 := Lib.hid h0
  clear hR h0
  obtain ⟨u0, u1, u2, u3⟩ := P4.of K1.out.M
  go_cut [9] (fun s9 wx => s9 = .bool (decide (m.e.client = who ∧ m.e.seq = c.seq ∧ c.sent ≠ [])) ∧ wx = w1)
  case first =>
    have way : (0 < c.sent.length ∧ (m.e.client == who) = true ∧ (m.e.seq == c.seq) = true ∧ (m.e.client = who ∧ m.e.seq = c.seq ∧ c.sent ≠ [])) ∨ (0 < c.sent.length ∧ (m.e.client == who) = true ∧ (m.e.seq == c.seq) = false ∧ ¬ (m.e.client = who ∧ m.e.seq = c.seq ∧ c.sent ≠ [])) ∨ (0 < c.sent.length ∧ (m.e.client == who) = false ∧ ¬ (m.e.client = who ∧ m.e.seq = c.seq ∧ c.sent ≠ [])) ∨ ((¬ 0 < c.sent.length) ∧ ¬ (m.e.client = who ∧ m.e.seq = c.seq ∧ c.sent ≠ [])) := by
      by_cases a3 : c.sent = []
      · exact Or.inr (Or.inr (Or.inr ⟨lpos_false a3, fun h => h.2.2 a3⟩))
      · by_cases a1 : m.e.client = who
        · by_cases a2 : m.e.seq = c.seq
          · exact Or.inl ⟨lpos_true a3, by simpa using a1, by simpa using a2, a1, a2, a3⟩
          · exact Or.inr (Or.inl ⟨lpos_true a3, by simpa using a1, by simpa using a2, fun h => a2 h.2.1⟩)
        · exact Or.inr (Or.inr (Or.inl ⟨lpos_true a3, by simpa using a1, fun h => a1 h.1⟩))
    rcases way with ⟨t1, t2, t3, t4⟩ | ⟨t1, t2, t3, t4⟩ | ⟨t1, t2, t4⟩ | ⟨t1, t4⟩
    · have t5 := Lib.hid (decide_eq_true t4)
      clear t4
      go_wp2
      go_meet
      exact ⟨by rw [t5.out], rfl⟩
    · have t5 := Lib.hid (decide_eq_false t4)
      clear t4
      go_wp2
      go_meet
      exact ⟨by rw [t5.out], rfl⟩
    · have t5 := Lib.hid (decide_eq_false t4)
      clear t4
      go_wp2
      go_meet
      exact ⟨by rw [t5.out], rfl⟩
    · have t5 := Lib.hid (decide_eq_false t4)
      clear t4
      go_wp2
      go_meet
      exact ⟨by rw [t5.out], rfl⟩
  case rest =>
    obtain ⟨rfl, hwc⟩ := hcut
    rw [hwc]
    clear hwc
    obtain ⟨ow, how⟩ : ∃ ow, Hid (decide (m.e.client = who ∧ m.e.seq = c.seq ∧ c.sent ≠ []) = ow) := ⟨_, Lib.hid rfl⟩
    rw [how.out]
    by_cases ho : m.e.o = []
    · have t1 := len0_true ho
      by_cases hown : (m.e.client = who ∧ m.e.seq = c.seq ∧ c.sent ≠ [])
      · have hr := hres.out
        rw [hearC, if_neg (by simpa using hck.out), if_pos ho, if_pos hown] at hr
        simp only [Prod.mk.injEq] at hr
        obtain ⟨hr1, rfl, rfl⟩ := hr
        have hR1 := Lib.hid hr1
        obtain rfl : ow = true := how.out.symm.trans (decide_eq_true hown)
        clear hr1 hres ho hown
        go_wp2_with fail
        refine (refGive_any _ _ _ _ _ _ _ _ _ _ _ _ _ _ _ w1).mono ?_
        rintro e w2 ⟨rfl, hbg⟩
        have K2 := Lib.hid (K1.out.below hbg)
        have E2 := Lib.hid ((hbg.block _ hgx).trans E0.out)
        have hG := RCl.give (RCl.to hR'.out (Kp.below hbg))
        have hcat := CAt.ofVal (c := giveC c) (F := (fun k => k ≠ w.heap.size ∧ k ≠ w.heap.size + 1 ∧ k ≠ w.heap.size + 2)) E2.out hG nF (fun k hk => by have := lt_of_heap K2.out.Z; exact ⟨by omega, by omega, by omega⟩) (fun i hi => hi)
        clear x0 x1 x2 x3 x4 x5 x6 hfz hgx u0 u1 u2 u3 hG hbg
        obtain ⟨x0, x1, x2, x3, x4, x5, x6⟩ := P7.of E2.out
        have hfz : ∀ i, w2.frozen? ⟨w.heap.size, i, none⟩ = false := fun i => Lib.frozen_of_heap E2.out _
        have hgx : w.heap.size < w2.heap.size := lt_of_heap E2.out
        go_upto_region 5 with fail
        refine name_world ?_
        intro w3 hW3
        have hA := hcat.1
        have hS := hcat.2
        rw [show (giveC c).rev = c.rev from rfl, show (giveC c).seq = c.seq from rfl, show (giveC c).joined = c.joined from rfl, hW3] at hA hS
        have H3 := Lib.hid hA
        have K3 := Lib.hid (K2.out.stays nF hS)
        clear hcat hA hS hW3 x0 x1 x2 x3 x4 x5 x6 hfz hgx hR' E0 E2
        obtain ⟨b9, n9, s9, k9, h0, hR⟩ := H3.out.val
        obtain ⟨m1, m2, m3, m4, m5, m6, m7, m8, rfl, rfl, rfl, rfl⟩ := rcl_shape hR
        obtain ⟨x0, x1, x2, x3, x4, x5, x6⟩ := P7.of h0
        have hfz : ∀ i, w3.frozen? ⟨w.heap.size, i, none⟩ = false := fun i => Lib.frozen_of_heap h0 _
        have hgx : w.heap.size < w3.heap.size := lt_of_heap h0
        have hR' := Lib.hid hR
        have E0 := Lib.hid h0
        clear hR h0
        obtain ⟨y0, y1, y2, y3, y4, y5, y6⟩ := P7.of K3.out.Z
        have hfz2 : ∀ i, w3.frozen? ⟨w.heap.size + 2, i, none⟩ = false := fun i => Lib.frozen_of_heap K3.out.Z _
        have hzz := lt_of_heap K3.out.Z
        go_wp2
        obtain ⟨q1, q2⟩ := set7z K3.out.Z (.int .i64 (giveC c).rev) (.slice m1 (giveC c).base.length m2) (.slice m3 (giveC c).now.length m4) (.int .i64 (giveC c).seq) (.slice m5 (giveC c).sent.length m6) (.slice m7 (giveC c).held.length m8) (.bool (giveC c).joined)
        generalize hwz : (((((((w3.setCell ⟨w.heap.size + 2, 0, none⟩ _).setCell ⟨w.heap.size + 2, 1, none⟩ _).setCell ⟨w.heap.size + 2, 2, none⟩ _).setCell ⟨w.heap.size + 2, 3, none⟩ _).setCell ⟨w.heap.size + 2, 4, none⟩ _).setCell ⟨w.heap.size + 2, 5, none⟩ _).setCell ⟨w.heap.size + 2, 6, none⟩ _) = wz at *
        obtain ⟨z0, z1, z2, z3, z4, z5, z6⟩ := P7.of q1
        exact bodyPost_ret (v := .tuple #[.agg #[.int .i64 (giveC c).rev, .slice m1 (giveC c).base.length m2, .slice m3 (giveC c).now.length m4, .int .i64 (giveC c).seq, .slice m5 (giveC c).sent.length m6, .slice m7 (giveC c).held.length m8, .bool (giveC c).joined], .bool false, .int .i64 0]) (by simp [results, Try.results71, go_sem, z0, z1, z2, z3, z4, z5, z6]) rfl ⟨_, rfl, (by rw [← hR1.out]; exact RCl.to hR'.out (fun i hi hl => ⟨trivial, q2.same i hl hi.2.2⟩)), K3.out.B.trans (q2.bel.mono (by omega))⟩
      · have hr := hres.out
        rw [hearC, if_neg (by simpa using hck.out), if_pos ho, if_neg hown] at hr
        simp only [Prod.mk.injEq] at hr
        obtain ⟨hr1, rfl, rfl⟩ := hr
        have hR1 := Lib.hid hr1
        obtain rfl : ow = false := how.out.symm.trans (decide_eq_false hown)
        clear hr1 hres ho hown x0 x1 x2 x3 x4 x5 x6 hfz hgx hR' E0
        obtain ⟨b9, n9, s9, k9, h0, hR⟩ := H1.out.val
        obtain ⟨m1, m2, m3, m4, m5, m6, m7, m8, rfl, rfl, rfl, rfl⟩ := rcl_shape hR
        obtain ⟨x0, x1, x2, x3, x4, x5, x6⟩ := P7.of h0
        have hfz : ∀ i, w1.frozen? ⟨w.heap.size, i, none⟩ = false := fun i => Lib.frozen_of_heap h0 _
        have hgx : w.heap.size < w1.heap.size := lt_of_heap h0
        have hR' := Lib.hid hR
        have E0 := Lib.hid h0
        clear hR h0
        obtain ⟨y0, y1, y2, y3, y4, y5, y6⟩ := P7.of K1.out.Z
        have hfz2 : ∀ i, w1.frozen? ⟨w.heap.size + 2, i, none⟩ = false := fun i => Lib.frozen_of_heap K1.out.Z _
        have hzz := lt_of_heap K1.out.Z
        go_wp2
        obtain ⟨q1, q2⟩ := set7z K1.out.Z (.int .i64 (c).rev) (.slice m1 (c).base.length m2) (.slice m3 (c).now.length m4) (.int .i64 (c).seq) (.slice m5 (c).sent.length m6) (.slice m7 (c).held.length m8) (.bool (c).joined)
        generalize hwz : (((((((w1.setCell ⟨w.heap.size + 2, 0, none⟩ _).setCell ⟨w.heap.size + 2, 1, none⟩ _).setCell ⟨w.heap.size + 2, 2, none⟩ _).setCell ⟨w.heap.size + 2, 3, none⟩ _).setCell ⟨w.heap.size + 2, 4, none⟩ _).setCell ⟨w.heap.size + 2, 5, none⟩ _).setCell ⟨w.heap.size + 2, 6, none⟩ _) = wz at *
        obtain ⟨z0, z1, z2, z3, z4, z5, z6⟩ := P7.of q1
        exact bodyPost_ret (v := .tuple #[.agg #[.int .i64 (c).rev, .slice m1 (c).base.length m2, .slice m3 (c).now.length m4, .int .i64 (c).seq, .slice m5 (c).sent.length m6, .slice m7 (c).held.length m8, .bool (c).joined], .bool false, .int .i64 0]) (by simp [results, Try.results71, go_sem, z0, z1, z2, z3, z4, z5, z6]) rfl ⟨_, rfl, (by rw [← hR1.out]; exact RCl.to hR'.out (fun i hi hl => ⟨trivial, q2.same i hl hi.2.2⟩)), K1.out.B.trans (q2.bel.mono (by omega))⟩
    · have t1 := len0_false ho
      go_wp2_with fail
      refine (checkOp_any _ _ m.e.o w1 K1.out.V).mono ?_
      rintro e w6 ⟨rfl, hb6⟩
      have H6 := Lib.hid (H1.out.below hb6)
      have K6 := Lib.hid (K1.out.below hb6)
      clear x0 x1 x2 x3 x4 x5 x6 u0 u1 u2 u3 hfz hgx hR' E0 K1 H1 hb6
      obtain ⟨b9, n9, s9, k9, h0, hR⟩ := H6.out.val
      obtain ⟨m1, m2, m3, m4, m5, m6, m7, m8, rfl, rfl, rfl, rfl⟩ := rcl_shape hR
      obtain ⟨x0, x1, x2, x3, x4, x5, x6⟩ := P7.of h0
      have hfz : ∀ i, w6.frozen? ⟨w.heap.size, i, none⟩ = false := fun i => Lib.frozen_of_heap h0 _
      have hgx : w.heap.size < w6.heap.size := lt_of_heap h0
      have hR' := Lib.hid hR
      have E0 := Lib.hid h0
      clear hR h0
      obtain ⟨u0, u1, u2, u3⟩ := P4.of K6.out.M
      by_cases hk : chkOp m.e.o = 0
      · have hk' := Lib.hid hk
        rw [hk]
        clear hk
        by_cases hbq : m.rev ≠ c.rev + 1 ∨ c.rev = 60
        · have hr := hres.out
          rw [hearC, if_neg (by simpa using hck.out), if_neg ho, if_neg (by simpa using hk'.out), if_pos hbq] at hr
          simp only [Prod.mk.injEq] at hr
          obtain ⟨hr1, rfl, rfl⟩ := hr
          have hR1 := Lib.hid hr1
          have way : (c.rev == 60) = true ∨ ((c.rev == 60) = false ∧ (wrap64 (m.rev - 1) != c.rev) = true) := by
            by_cases a1 : c.rev = 60
            · exact Or.inl (by simpa using a1)
            · refine Or.inr ⟨by simpa using a1, ?_⟩
              have : ¬ m.rev = c.rev + 1 := by rcases hbq with h | h; exact h; exact absurd h a1
              simpa using fun h => this (hwm.out.1 h)
          clear hr1 hres ho hbq
          rcases way with b1 | ⟨b1, b2⟩
          all_goals
            go_upto_region 10 with fail
            clear x0 x1 x2 x3 x4 x5 x6 hfz hgx hR' E0
            obtain ⟨b9, n9, s9, k9, h0, hR⟩ := H6.out.val
            obtain ⟨m1, m2, m3, m4, m5, m6, m7, m8, rfl, rfl, rfl, rfl⟩ := rcl_shape hR
            obtain ⟨x0, x1, x2, x3, x4, x5, x6⟩ := P7.of h0
            have hfz : ∀ i, w6.frozen? ⟨w.heap.size, i, none⟩ = false := fun i => Lib.frozen_of_heap h0 _
            have hgx : w.heap.size < w6.heap.size := lt_of_heap h0
            have hR' := Lib.hid hR
            have E0 := Lib.hid h0
            clear hR h0
            obtain ⟨y0, y1, y2, y3, y4, y5, y6⟩ := P7.of K6.out.Z
            have hfz2 : ∀ i, w6.frozen? ⟨w.heap.size + 2, i, none⟩ = false := fun i => Lib.frozen_of_heap K6.out.Z _
            have hzz := lt_of_heap K6.out.Z
            go_wp2
            obtain ⟨q1, q2⟩ := set7z K6.out.Z (.int .i64 (c).rev) (.slice m1 (c).base.length m2) (.slice m3 (c).now.length m4) (.int .i64 (c).seq) (.slice m5 (c).sent.length m6) (.slice m7 (c).held.length m8) (.bool (c).joined)
            generalize hwz : (((((((w6.setCell ⟨w.heap.size + 2, 0, none⟩ _).setCell ⟨w.heap.size + 2, 1, none⟩ _).setCell ⟨w.heap.size + 2, 2, none⟩ _).setCell ⟨w.heap.size + 2, 3, none⟩ _).setCell ⟨w.heap.size + 2, 4, none⟩ _).setCell ⟨w.heap.size + 2, 5, none⟩ _).setCell ⟨w.heap.size + 2, 6, none⟩ _) = wz at *
            obtain ⟨z0, z1, z2, z3, z4, z5, z6⟩ := P7.of q1
            exact bodyPost_ret (v := .tuple #[.agg #[.int .i64 (c).rev, .slice m1 (c).base.length m2, .slice m3 (c).now.length m4, .int .i64 (c).seq, .slice m5 (c).sent.length m6, .slice m7 (c).held.length m8, .bool (c).joined], .bool false, .int .i64 0]) (by simp [results, Try.results71, go_sem, z0, z1, z2, z3, z4, z5, z6]) rfl ⟨_, rfl, (by rw [← hR1.out]; exact RCl.to hR'.out (fun i hi hl => ⟨trivial, q2.same i hl hi.2.2⟩)), K6.out.B.trans (q2.bel.mono (by omega))⟩
        · have b1 : (c.rev == 60) = false := by simp; exact fun h => hbq (Or.inr h)
          have b2 : (wrap64 (m.rev - 1) != c.rev) = false := by
            simp; exact hwm.out.2 (Decidable.byContradiction fun h => hbq (Or.inl h))
          have EB := Lib.hid (rcl_base hR'.out)
          have C := Lib.hid (refApplied_any _ _ _ _ c.base m.e.o w6 EB.out K6.out.V)
          clear EB
          by_cases hown : (m.e.client = who ∧ m.e.seq = c.seq ∧ c.sent ≠ [])
          · obtain rfl : ow = true := how.out.symm.trans (decide_eq_true hown)
            by_cases he : (applyP c.base m.e.o).2 = 0
            · rw [he] at C
              have hr := hres.out
              rw [hearC, if_neg (by simpa using hck.out), if_neg ho, if_neg (by simpa using hk'.out), if_neg hbq, if_neg (not_not_intro hown), if_neg (by simpa using he)] at hr
              have hr' := Lib.hid hr
              clear hr hres ho hbq hown he
              go_wp2_with fail
              refine C.out.mono ?_
              rintro e w7 ⟨r7, rfl, hr7, hb7⟩
              obtain ⟨ra, rc, rfl, _⟩ := RdS.len hr7
              have H7 := Lib.hid (H6.out.below hb7)
              have K7 := Lib.hid (K6.out.below hb7)
              have A7 : Hid (RItems (fun k => k ≠ w.heap.size ∧ k ≠ w.heap.size + 1 ∧ k ≠ w.heap.size + 2) w7 (.slice ra (applyP c.base m.e.o).1.length rc) (applyP c.base m.e.o).1) := Lib.hid (RItems.to hr7 (fun i hi hl => ⟨H6.out.2.1 i hi, rfl⟩))
              clear x0 x1 x2 x3 x4 x5 x6 u0 u1 u2 u3 hfz hgx C K6 H6 E0 hR' hr7 hb7
              obtain ⟨b9, n9, s9, k9, h0, hR⟩ := H7.out.val
              obtain ⟨m1, m2, m3, m4, m5, m6, m7, m8, rfl, rfl, rfl, rfl⟩ := rcl_shape hR
              obtain ⟨x0, x1, x2, x3, x4, x5, x6⟩ := P7.of h0
              have hfz : ∀ i, w7.frozen? ⟨w.heap.size, i, none⟩ = false := fun i => Lib.frozen_of_heap h0 _
              have hgx : w.heap.size < w7.heap.size := lt_of_heap h0
              have hR' := Lib.hid hR
              have E0 := Lib.hid h0
              clear hR h0
              have EH := Lib.hid (rcl_held hR'.out)
              have S1 : Stays w.heap.size w7 (w7.setCell ⟨w.heap.size, 0, none⟩ (.int .i64 (c.rev + 1))) := Stays.set
              have S2 : Stays w.heap.size w7 ((w7.setCell ⟨w.heap.size, 0, none⟩ (.int .i64 (c.rev + 1))).setCell ⟨w.heap.size, 1, none⟩ (.slice ra (applyP c.base m.e.o).1.length rc)) := S1.trans Stays.set
              have S3 : Stays w.heap.size w7 (((w7.setCell ⟨w.heap.size, 0, none⟩ (.int .i64 (c.rev + 1))).setCell ⟨w.heap.size, 1, none⟩ (.slice ra (applyP c.base m.e.o).1.length rc)).setCell ⟨w.heap.size, 4, none⟩ (.slice m7 c.held.length m8)) := S2.trans Stays.set
              have S4 : Stays w.heap.size w7 ((((w7.setCell ⟨w.heap.size, 0, none⟩ (.int .i64 (c.rev + 1))).setCell ⟨w.heap.size, 1, none⟩ (.slice ra (applyP c.base m.e.o).1.length rc)).setCell ⟨w.heap.size, 4, none⟩ (.slice m7 c.held.length m8)).setCell ⟨w.heap.size, 5, none⟩ (.slice none 0 0)) := S3.trans Stays.set
              have H8 := Lib.hid (((((H7.out).set0 (c.rev + 1)).set1 (RItems.to A7.out (kp_stays nF S1))).set4 (ROp.to EH.out (kp_stays nF S2))).set5 RdS.nil)
              have K8 := Lib.hid (K7.out.stays nF S4)
              have A8 := Lib.hid (RItems.to A7.out (kp_stays nF S4))
              go_upto_region 17 with fail
              refine name_world ?_
              intro w8 hWw8
              rw [hWw8] at H8 K8 A8
              clear hWw8 S1 S2 S3 S4 x0 x1 x2 x3 x4 x5 x6 hfz hgx E0 hR'
              clear H7 K7 A7 EH
              obtain ⟨b9, n9, s9, k9, h0, hR⟩ := H8.out.val
              obtain ⟨m1, m2, m3, m4, m5, m6, m7, m8, rfl, rfl, rfl, rfl⟩ := rcl_shape hR
              obtain ⟨x0, x1, x2, x3, x4, x5, x6⟩ := P7.of h0
              have hfz : ∀ i, w8.frozen? ⟨w.heap.size, i, none⟩ = false := fun i => Lib.frozen_of_heap h0 _
              have hgx : w.heap.size < w8.heap.size := lt_of_heap h0
              have hR' := Lib.hid hR
              have E0 := Lib.hid h0
              clear hR h0
              have ES := Lib.hid (rcl_sent hR'.out)
              by_cases hh : c.held = []
              · have t1 := len0_true hh
                have hr := hr'.out
                rw [if_pos hh] at hr
                simp only [Prod.mk.injEq] at hr
                obtain ⟨hr1, rfl, rfl⟩ := hr
                have hR1 : Hid (giveC ({ c with base := (applyP c.base m.e.o).1, rev := c.rev + 1, sent := c.held, held := [] } : Cl) = R1) := Lib.hid (by rw [← hr1]; rfl)
                clear hr1 hr' hh ES
                go_wp2_with fail
                refine (refGive_any _ _ _ _ _ _ _ _ _ _ _ _ _ _ _ w8).mono ?_
                rintro e wg ⟨rfl, hbg⟩
                have Kg := Lib.hid (K8.out.below hbg)
                clear x0 x1 x2 x3 x4 x5 x6 hfz hgx
                obtain ⟨y0, y1, y2, y3, y4, y5, y6⟩ := P7.of Kg.out.Z
                have hfz2 : ∀ i, wg.frozen? ⟨w.heap.size + 2, i, none⟩ = false := fun i => Lib.frozen_of_heap Kg.out.Z _
                have hzz := lt_of_heap Kg.out.Z
                go_wp2
                obtain ⟨q1, q2⟩ := set7z Kg.out.Z (.int .i64 (({ c with base := (applyP c.base m.e.o).1, rev := c.rev + 1, sent := c.held, held := [] } : Cl)).rev) (.slice m1 (({ c with base := (applyP c.base m.e.o).1, rev := c.rev + 1, sent := c.held, held := [] } : Cl)).base.length m2) (.slice m1 (({ c with base := (applyP c.base m.e.o).1, rev := c.rev + 1, sent := c.held, held := [] } : Cl)).base.length m2) (.int .i64 (({ c with base := (applyP c.base m.e.o).1, rev := c.rev + 1, sent := c.held, held := [] } : Cl)).seq) (.slice none 0 0) (.slice none 0 0) (.bool (({ c with base := (applyP c.base m.e.o).1, rev := c.rev + 1, sent := c.held, held := [] } : Cl)).joined)
                generalize hwz : (((((((wg.setCell ⟨w.heap.size + 2, 0, none⟩ _).setCell ⟨w.heap.size + 2, 1, none⟩ _).setCell ⟨w.heap.size + 2, 2, none⟩ _).setCell ⟨w.heap.size + 2, 3, none⟩ _).setCell ⟨w.heap.size + 2, 4, none⟩ _).setCell ⟨w.heap.size + 2, 5, none⟩ _).setCell ⟨w.heap.size + 2, 6, none⟩ _) = wz at *
                obtain ⟨z0, z1, z2, z3, z4, z5, z6⟩ := P7.of q1
                exact bodyPost_ret (v := .tuple #[.agg #[.int .i64 (({ c with base := (applyP c.base m.e.o).1, rev := c.rev + 1, sent := c.held, held := [] } : Cl)).rev, .slice m1 (({ c with base := (applyP c.base m.e.o).1, rev := c.rev + 1, sent := c.held, held := [] } : Cl)).base.length m2, .slice m1 (({ c with base := (applyP c.base m.e.o).1, rev := c.rev + 1, sent := c.held, held := [] } : Cl)).base.length m2, .int .i64 (({ c with base := (applyP c.base m.e.o).1, rev := c.rev + 1, sent := c.held, held := [] } : Cl)).seq, .slice none 0 0, .slice none 0 0, .bool (({ c with base := (applyP c.base m.e.o).1, rev := c.rev + 1, sent := c.held, held := [] } : Cl)).joined], .bool false, .int .i64 0]) (by simp [results, Try.results71, go_sem, z0, z1, z2, z3, z4, z5, z6]) rfl ⟨_, rfl, (by rw [← hR1.out]; exact RCl.to (RCl.give (RCl.to hR'.out (Kp.below hbg))) (fun i hi hl => ⟨trivial, q2.same i hl hi.2.2⟩)), Kg.out.B.trans (q2.bel.mono (by omega))⟩
              · have t1 := len0_false hh
                have C2 := Lib.hid (refApplied_any _ _ _ _ (applyP c.base m.e.o).1 c.held w8 A8.out ES.out)
                go_wp2_with fail
                refine C2.out.mono ?_
                rintro e w9 ⟨r9, rfl, hr9, hb9⟩
                obtain ⟨ua, uc, rfl, _⟩ := RdS.len hr9
                have H9 := Lib.hid (H8.out.below hb9)
                have K9 := Lib.hid (K8.out.below hb9)
                have U9 : Hid (RItems (fun k => k ≠ w.heap.size ∧ k ≠ w.heap.size + 1 ∧ k ≠ w.heap.size + 2) w9 (.slice ua (applyP (applyP c.base m.e.o).1 c.held).1.length uc) (applyP (applyP c.base m.e.o).1 c.held).1) := Lib.hid (RItems.to hr9 (fun i hi hl => ⟨H8.out.2.1 i hi, rfl⟩))
                clear x0 x1 x2 x3 x4 x5 x6 hfz hgx hR' E0 hr9 hb9 C2 ES H8 K8 A8
                obtain ⟨b9, n9, s9, k9, h0, hR⟩ := H9.out.val
                obtain ⟨m1, m2, m3, m4, m5, m6, m7, m8, rfl, rfl, rfl, rfl⟩ := rcl_shape hR
                obtain ⟨x0, x1, x2, x3, x4, x5, x6⟩ := P7.of h0
                have hfz : ∀ i, w9.frozen? ⟨w.heap.size, i, none⟩ = false := fun i => Lib.frozen_of_heap h0 _
                have hgx : w.heap.size < w9.heap.size := lt_of_heap h0
                have hR' := Lib.hid hR
                have E0 := Lib.hid h0
                clear hR h0
                by_cases hq : c.seq = 10000
                · have t2 : (c.seq == 10000) = true := by simpa using hq
                  have hr := hr'.out
                  rw [if_neg hh, if_pos (Or.inl hq)] at hr
                  simp only [Prod.mk.injEq] at hr
                  obtain ⟨hr1, rfl, rfl⟩ := hr
                  have hR1 : Hid (giveC ({ c with base := (applyP c.base m.e.o).1, rev := c.rev + 1, sent := c.held, held := [] } : Cl) = R1) := Lib.hid (by rw [← hr1]; rfl)
                  clear hr1 hr' hh hq U9
                  go_wp2_with fail
                  refine (refGive_any _ _ _ _ _ _ _ _ _ _ _ _ _ _ _ w9).mono ?_
                  rintro e wg ⟨rfl, hbg⟩
                  have Kg := Lib.hid (K9.out.below hbg)
                  clear x0 x1 x2 x3 x4 x5 x6 hfz hgx
                  obtain ⟨y0, y1, y2, y3, y4, y5, y6⟩ := P7.of Kg.out.Z
                  have hfz2 : ∀ i, wg.frozen? ⟨w.heap.size + 2, i, none⟩ = false := fun i => Lib.frozen_of_heap Kg.out.Z _
                  have hzz := lt_of_heap Kg.out.Z
                  go_wp2
                  obtain ⟨q1, q2⟩ := set7z Kg.out.Z (.int .i64 (({ c with base := (applyP c.base m.e.o).1, rev := c.rev + 1, sent := c.held, held := [] } : Cl)).rev) (.slice m1 (({ c with base := (applyP c.base m.e.o).1, rev := c.rev + 1, sent := c.held, held := [] } : Cl)).base.length m2) (.slice m1 (({ c with base := (applyP c.base m.e.o).1, rev := c.rev + 1, sent := c.held, held := [] } : Cl)).base.length m2) (.int .i64 (({ c with base := (applyP c.base m.e.o).1, rev := c.rev + 1, sent := c.held, held := [] } : Cl)).seq) (.slice none 0 0) (.slice none 0 0) (.bool (({ c with base := (applyP c.base m.e.o).1, rev := c.rev + 1, sent := c.held, held := [] } : Cl)).joined)
                  generalize hwz : (((((((wg.setCell ⟨w.heap.size + 2, 0, none⟩ _).setCell ⟨w.heap.size + 2, 1, none⟩ _).setCell ⟨w.heap.size + 2, 2, none⟩ _).setCell ⟨w.heap.size + 2, 3, none⟩ _).setCell ⟨w.heap.size + 2, 4, none⟩ _).setCell ⟨w.heap.size + 2, 5, none⟩ _).setCell ⟨w.heap.size + 2, 6, none⟩ _) = wz at *
                  obtain ⟨z0, z1, z2, z3, z4, z5, z6⟩ := P7.of q1
                  exact bodyPost_ret (v := .tuple #[.agg #[.int .i64 (({ c with base := (applyP c.base m.e.o).1, rev := c.rev + 1, sent := c.held, held := [] } : Cl)).rev, .slice m1 (({ c with base := (applyP c.base m.e.o).1, rev := c.rev + 1, sent := c.held, held := [] } : Cl)).base.length m2, .slice m1 (({ c with base := (applyP c.base m.e.o).1, rev := c.rev + 1, sent := c.held, held := [] } : Cl)).base.length m2, .int .i64 (({ c with base := (applyP c.base m.e.o).1, rev := c.rev + 1, sent := c.held, held := [] } : Cl)).seq, .slice none 0 0, .slice none 0 0, .bool (({ c with base := (applyP c.base m.e.o).1, rev := c.rev + 1, sent := c.held, held := [] } : Cl)).joined], .bool false, .int .i64 0]) (by simp [results, Try.results71, go_sem, z0, z1, z2, z3, z4, z5, z6]) rfl ⟨_, rfl, (by rw [← hR1.out]; exact RCl.to (RCl.give (RCl.to hR'.out (Kp.below hbg))) (fun i hi hl => ⟨trivial, q2.same i hl hi.2.2⟩)), Kg.out.B.trans (q2.bel.mono (by omega))⟩
                · have t2 : (c.seq == 10000) = false := by simpa using hq
                  by_cases he2 : (applyP (applyP c.base m.e.o).1 c.held).2 = 0
                  · have hr := hr'.out
                    rw [if_neg hh, if_neg (fun h => by rcases h with h | h; exact hq h; exact h he2)] at hr
                    simp only [Prod.mk.injEq] at hr
                    obtain ⟨hr1, rfl, rfl⟩ := hr
                    have hR1 := Lib.hid hr1
                    rw [he2]
                    clear hr1 hr' hh hq he2
                    have S1 : Stays w.heap.size w9 (w9.setCell ⟨w.heap.size, 2, none⟩ (.slice ua (applyP (applyP c.base m.e.o).1 c.held).1.length uc)) := Stays.set
                    have S2 : Stays w.heap.size w9 ((w9.setCell ⟨w.heap.size, 2, none⟩ (.slice ua (applyP (applyP c.base m.e.o).1 c.held).1.length uc)).setCell ⟨w.heap.size, 3, none⟩ (.int .i64 (c.seq + 1))) := S1.trans Stays.set
                    have H10 := Lib.hid (((H9.out).set2 (U9.out)).set3 (c.seq + 1))
                    have K10 := Lib.hid (K9.out.stays nF S2)
                    go_upto_region 24 with fail
                    refine name_world ?_
                    intro w10 hWw10
                    rw [hWw10] at H10 K10
                    clear hWw10 S1 S2 x0 x1 x2 x3 x4 x5 x6 hfz hgx E0 hR'
                    clear H9 K9 U9
                    obtain ⟨b9, n9, s9, k9, h0, hR⟩ := H10.out.val
                    obtain ⟨m1, m2, m3, m4, m5, m6, m7, m8, rfl, rfl, rfl, rfl⟩ := rcl_shape hR
                    obtain ⟨x0, x1, x2, x3, x4, x5, x6⟩ := P7.of h0
                    have hfz : ∀ i, w10.frozen? ⟨w.heap.size, i, none⟩ = false := fun i => Lib.frozen_of_heap h0 _
                    have hgx : w.heap.size < w10.heap.size := lt_of_heap h0
                    have hR' := Lib.hid hR
                    have E0 := Lib.hid h0
                    clear hR h0
                    obtain ⟨y0, y1, y2, y3, y4, y5, y6⟩ := P7.of K10.out.Z
                    have hfz2 : ∀ i, w10.frozen? ⟨w.heap.size + 2, i, none⟩ = false := fun i => Lib.frozen_of_heap K10.out.Z _
                    have hzz := lt_of_heap K10.out.Z
                    go_wp2
                    obtain ⟨q1, q2⟩ := set7z K10.out.Z (.int .i64 (({ c with base := (applyP c.base m.e.o).1, rev := c.rev + 1, sent := c.held, held := [], now := (applyP (applyP c.base m.e.o).1 c.held).1, seq := c.seq + 1 } : Cl)).rev) (.slice m1 (({ c with base := (applyP c.base m.e.o).1, rev := c.rev + 1, sent := c.held, held := [], now := (applyP (applyP c.base m.e.o).1 c.held).1, seq := c.seq + 1 } : Cl)).base.length m2) (.slice m3 (({ c with base := (applyP c.base m.e.o).1, rev := c.rev + 1, sent := c.held, held := [], now := (applyP (applyP c.base m.e.o).1 c.held).1, seq := c.seq + 1 } : Cl)).now.length m4) (.int .i64 (({ c with base := (applyP c.base m.e.o).1, rev := c.rev + 1, sent := c.held, held := [], now := (applyP (applyP c.base m.e.o).1 c.held).1, seq := c.seq + 1 } : Cl)).seq) (.slice m5 (({ c with base := (applyP c.base m.e.o).1, rev := c.rev + 1, sent := c.held, held := [], now := (applyP (applyP c.base m.e.o).1 c.held).1, seq := c.seq + 1 } : Cl)).sent.length m6) (.slice m7 (({ c with base := (applyP c.base m.e.o).1, rev := c.rev + 1, sent := c.held, held := [], now := (applyP (applyP c.base m.e.o).1 c.held).1, seq := c.seq + 1 } : Cl)).held.length m8) (.bool (({ c with base := (applyP c.base m.e.o).1, rev := c.rev + 1, sent := c.held, held := [], now := (applyP (applyP c.base m.e.o).1 c.held).1, seq := c.seq + 1 } : Cl)).joined)
                    generalize hwz : (((((((w10.setCell ⟨w.heap.size + 2, 0, none⟩ _).setCell ⟨w.heap.size + 2, 1, none⟩ _).setCell ⟨w.heap.size + 2, 2, none⟩ _).setCell ⟨w.heap.size + 2, 3, none⟩ _).setCell ⟨w.heap.size + 2, 4, none⟩ _).setCell ⟨w.heap.size + 2, 5, none⟩ _).setCell ⟨w.heap.size + 2, 6, none⟩ _) = wz at *
                    obtain ⟨z0, z1, z2, z3, z4, z5, z6⟩ := P7.of q1
                    exact bodyPost_ret (v := .tuple #[.agg #[.int .i64 (({ c with base := (applyP c.base m.e.o).1, rev := c.rev + 1, sent := c.held, held := [], now := (applyP (applyP c.base m.e.o).1 c.held).1, seq := c.seq + 1 } : Cl)).rev, .slice m1 (({ c with base := (applyP c.base m.e.o).1, rev := c.rev + 1, sent := c.held, held := [], now := (applyP (applyP c.base m.e.o).1 c.held).1, seq := c.seq + 1 } : Cl)).base.length m2, .slice m3 (({ c with base := (applyP c.base m.e.o).1, rev := c.rev + 1, sent := c.held, held := [], now := (applyP (applyP c.base m.e.o).1 c.held).1, seq := c.seq + 1 } : Cl)).now.length m4, .int .i64 (({ c with base := (applyP c.base m.e.o).1, rev := c.rev + 1, sent := c.held, held := [], now := (applyP (applyP c.base m.e.o).1 c.held).1, seq := c.seq + 1 } : Cl)).seq, .slice m5 (({ c with base := (applyP c.base m.e.o).1, rev := c.rev + 1, sent := c.held, held := [], now := (applyP (applyP c.base m.e.o).1 c.held).1, seq := c.seq + 1 } : Cl)).sent.length m6, .slice m7 (({ c with base := (applyP c.base m.e.o).1, rev := c.rev + 1, sent := c.held, held := [], now := (applyP (applyP c.base m.e.o).1 c.held).1, seq := c.seq + 1 } : Cl)).held.length m8, .bool (({ c with base := (applyP c.base m.e.o).1, rev := c.rev + 1, sent := c.held, held := [], now := (applyP (applyP c.base m.e.o).1 c.held).1, seq := c.seq + 1 } : Cl)).joined], .bool true, .int .i64 0]) (by simp [results, Try.results71, go_sem, z0, z1, z2, z3, z4, z5, z6]) rfl ⟨_, rfl, (by rw [← hR1.out]; exact RCl.to hR'.out (fun i hi hl => ⟨trivial, q2.same i hl hi.2.2⟩)), K10.out.B.trans (q2.bel.mono (by omega))⟩
                  · have he3 : ((applyP (applyP c.base m.e.o).1 c.held).2 != 0) = true := by simpa using he2
                    have hr := hr'.out
                    rw [if_neg hh, if_pos (Or.inr he2)] at hr
                    simp only [Prod.mk.injEq] at hr
                    obtain ⟨hr1, rfl, rfl⟩ := hr
                    have hR1 : Hid (giveC ({ c with base := (applyP c.base m.e.o).1, rev := c.rev + 1, sent := c.held, held := [] } : Cl) = R1) := Lib.hid (by rw [← hr1]; rfl)
                    clear hr1 hr' hh hq U9 he2
                    go_wp2_with fail
                    refine (refGive_any _ _ _ _ _ _ _ _ _ _ _ _ _ _ _ w9).mono ?_
                    rintro e wg ⟨rfl, hbg⟩
                    have Kg := Lib.hid (K9.out.below hbg)
                    clear x0 x1 x2 x3 x4 x5 x6 hfz hgx
                    obtain ⟨y0, y1, y2, y3, y4, y5, y6⟩ := P7.of Kg.out.Z
                    have hfz2 : ∀ i, wg.frozen? ⟨w.heap.size + 2, i, none⟩ = false := fun i => Lib.frozen_of_heap Kg.out.Z _
                    have hzz := lt_of_heap Kg.out.Z
                    go_wp2
                    obtain ⟨q1, q2⟩ := set7z Kg.out.Z (.int .i64 (({ c with base := (applyP c.base m.e.o).1, rev := c.rev + 1, sent := c.held, held := [] } : Cl)).rev) (.slice m1 (({ c with base := (applyP c.base m.e.o).1, rev := c.rev + 1, sent := c.held, held := [] } : Cl)).base.length m2) (.slice m1 (({ c with base := (applyP c.base m.e.o).1, rev := c.rev + 1, sent := c.held, held := [] } : Cl)).base.length m2) (.int .i64 (({ c with base := (applyP c.base m.e.o).1, rev := c.rev + 1, sent := c.held, held := [] } : Cl)).seq) (.slice none 0 0) (.slice none 0 0) (.bool (({ c with base := (applyP c.base m.e.o).1, rev := c.rev + 1, sent := c.held, held := [] } : Cl)).joined)
                    generalize hwz : (((((((wg.setCell ⟨w.heap.size + 2, 0, none⟩ _).setCell ⟨w.heap.size + 2, 1, none⟩ _).setCell ⟨w.heap.size + 2, 2, none⟩ _).setCell ⟨w.heap.size + 2, 3, none⟩ _).setCell ⟨w.heap.size + 2, 4, none⟩ _).setCell ⟨w.heap.size + 2, 5, none⟩ _).setCell ⟨w.heap.size + 2, 6, none⟩ _) = wz at *
                    obtain ⟨z0, z1, z2, z3, z4, z5, z6⟩ := P7.of q1
                    exact bodyPost_ret (v := .tuple #[.agg #[.int .i64 (({ c with base := (applyP c.base m.e.o).1, rev := c.rev + 1, sent := c.held, held := [] } : Cl)).rev, .slice m1 (({ c with base := (applyP c.base m.e.o).1, rev := c.rev + 1, sent := c.held, held := [] } : Cl)).base.length m2, .slice m1 (({ c with base := (applyP c.base m.e.o).1, rev := c.rev + 1, sent := c.held, held := [] } : Cl)).base.length m2, .int .i64 (({ c with base := (applyP c.base m.e.o).1, rev := c.rev + 1, sent := c.held, held := [] } : Cl)).seq, .slice none 0 0, .slice none 0 0, .bool (({ c with base := (applyP c.base m.e.o).1, rev := c.rev + 1, sent := c.held, held := [] } : Cl)).joined], .bool false, .int .i64 0]) (by simp [results, Try.results71, go_sem, z0, z1, z2, z3, z4, z5, z6]) rfl ⟨_, rfl, (by rw [← hR1.out]; exact RCl.to (RCl.give (RCl.to hR'.out (Kp.below hbg))) (fun i hi hl => ⟨trivial, q2.same i hl hi.2.2⟩)), Kg.out.B.trans (q2.bel.mono (by omega))⟩
            · have hr := hres.out
              rw [hearC, if_neg (by simpa using hck.out), if_neg ho, if_neg (by simpa using hk'.out), if_neg hbq, if_neg (not_not_intro hown), if_pos he] at hr
              simp only [Prod.mk.injEq] at hr
              obtain ⟨hr1, hr2, hr3⟩ := hr
              subst hr1
              subst hr2
              subst hr3
              have he' : ((applyP c.base m.e.o).2 != 0) = true := by simpa using he
              clear hres ho hbq hown he
              go_wp2_with fail
              refine C.out.mono ?_
              rintro e w7 ⟨r7, rfl, hr7, hb7⟩
              have K7 := Lib.hid (K6.out.below hb7)
              clear x0 x1 x2 x3 x4 x5 x6 u0 u1 u2 u3 hfz hgx C K6 H6 E0 hR' hr7 hb7
              obtain ⟨y0, y1, y2, y3, y4, y5, y6⟩ := P7.of K7.out.Z
              have hfz2 : ∀ i, w7.frozen? ⟨w.heap.size + 2, i, none⟩ = false := fun i => Lib.frozen_of_heap K7.out.Z _
              have hzz := lt_of_heap K7.out.Z
              go_wp2
              obtain ⟨q1, q2⟩ := set7z K7.out.Z (.int .i64 0) (.slice none 0 0) (.slice none 0 0) (.int .i64 0) (.slice none 0 0) (.slice none 0 0) (.bool false)
              generalize hwz : (((((((w7.setCell ⟨w.heap.size + 2, 0, none⟩ _).setCell ⟨w.heap.size + 2, 1, none⟩ _).setCell ⟨w.heap.size + 2, 2, none⟩ _).setCell ⟨w.heap.size + 2, 3, none⟩ _).setCell ⟨w.heap.size + 2, 4, none⟩ _).setCell ⟨w.heap.size + 2, 5, none⟩ _).setCell ⟨w.heap.size + 2, 6, none⟩ _) = wz at *
              obtain ⟨z0, z1, z2, z3, z4, z5, z6⟩ := P7.of q1
              exact bodyPost_ret (v := .tuple #[.agg #[.int .i64 0, .slice none 0 0, .slice none 0 0, .int .i64 0, .slice none 0 0, .slice none 0 0, .bool false], .bool false, .int .i64 (applyP c.base m.e.o).2]) (by simp [results, Try.results71, go_sem, z0, z1, z2, z3, z4, z5, z6]) rfl ⟨_, rfl, RCl.zero, K7.out.B.trans (q2.bel.mono (by omega))⟩
          · have hr := hres.out
            rw [hearC, if_neg (by simpa using hck.out), if_neg ho, if_neg (by simpa using hk'.out), if_neg hbq, if_pos hown] at hr
            simp only [Prod.mk.injEq] at hr
            obtain ⟨hr1, rfl, rfl⟩ := hr
            have ho1 := Lib.hid hr1
            obtain rfl : ow = false := how.out.symm.trans (decide_eq_false hown)
            clear hr1 hres ho hbq hown
            go_wp2_with fail
            refine C.out.mono ?_
            rintro e w7 ⟨r7, rfl, hr7, hb7⟩
            obtain ⟨ra, rc, rfl, _⟩ := RdS.len hr7
            have H7 := Lib.hid (H6.out.below hb7)
            have K7 := Lib.hid (K6.out.below hb7)
            have A7 : Hid (RItems (fun k => k ≠ w.heap.size ∧ k ≠ w.heap.size + 1 ∧ k ≠ w.heap.size + 2) w7 (.slice ra (applyP c.base m.e.o).1.length rc) (applyP c.base m.e.o).1) := Lib.hid (RItems.to hr7 (fun i hi hl => ⟨H6.out.2.1 i hi, rfl⟩))
            clear x0 x1 x2 x3 x4 x5 x6 u0 u1 u2 u3 hfz hgx C K6 H6 E0 hR' hr7 hb7
            by_cases he : (applyP c.base m.e.o).2 = 0
            · have he' := Lib.hid he
              rw [he]
              clear he
              obtain ⟨b9, n9, s9, k9, h0, hR⟩ := H7.out.val
              obtain ⟨m1, m2, m3, m4, m5, m6, m7, m8, rfl, rfl, rfl, rfl⟩ := rcl_shape hR
              obtain ⟨x0, x1, x2, x3, x4, x5, x6⟩ := P7.of h0
              have hfz : ∀ i, w7.frozen? ⟨w.heap.size, i, none⟩ = false := fun i => Lib.frozen_of_heap h0 _
              have hgx : w.heap.size < w7.heap.size := lt_of_heap h0
              have hR' := Lib.hid hR
              have E0 := Lib.hid h0
              clear hR h0
              have S1 : Stays w.heap.size w7 (w7.setCell ⟨w.heap.size, 0, none⟩ (.int .i64 (c.rev + 1))) := Stays.set
              have S2 : Stays w.heap.size w7 ((w7.setCell ⟨w.heap.size, 0, none⟩ (.int .i64 (c.rev + 1))).setCell ⟨w.heap.size, 1, none⟩ (.slice ra (applyP c.base m.e.o).1.length rc)) := S1.trans Stays.set
              have H8 := Lib.hid (((H7.out).set0 (c.rev + 1)).set1 (RItems.to A7.out (kp_stays nF S1)))
              have K8 := Lib.hid (K7.out.stays nF S2)
              go_upto_region 29 with fail
              refine name_world ?_
              intro w8 hWw8
              rw [hWw8] at H8 K8
              clear hWw8 S1 S2 x0 x1 x2 x3 x4 x5 x6 hfz hgx E0 hR'
              clear H7 K7 A7
              obtain ⟨b9, n9, s9, k9, h0, hR⟩ := H8.out.val
              obtain ⟨m1, m2, m3, m4, m5, m6, m7, m8, rfl, rfl, rfl, rfl⟩ := rcl_shape hR
              obtain ⟨x0, x1, x2, x3, x4, x5, x6⟩ := P7.of h0
              have hfz : ∀ i, w8.frozen? ⟨w.heap.size, i, none⟩ = false := fun i => Lib.frozen_of_heap h0 _
              have hgx : w.heap.size < w8.heap.size := lt_of_heap h0
              have hR' := Lib.hid hR
              have E0 := Lib.hid h0
              clear hR h0
              obtain ⟨u0, u1, u2, u3⟩ := P4.of K8.out.M
              have ES := Lib.hid (rcl_sent hR'.out)
              have EH := Lib.hid (rcl_held hR'.out)
              by_cases hs : c.sent = []
              · have t1 := lpos_false hs
                have t2 := lpos_false (hsh.out hs)
                have hsh2 := hsh
                have hX : Hid ((if (ownsP (applyP c.base m.e.o).1 (c.sent) (c.held)).2 ≠ 0 then giveC ({ c with base := (applyP c.base m.e.o).1, rev := c.rev + 1 } : Cl) else ({ c with base := (applyP c.base m.e.o).1, rev := c.rev + 1, sent := c.sent, held := c.held, now := (ownsP (applyP c.base m.e.o).1 (c.sent) (c.held)).1 } : Cl)) = R1) := Lib.hid (by
                  have hq := ho1.out
                  rw [other_some (s := c.sent) (k := c.held) he'.out (by rw [t2_0 hs, hs]), owns2_eq hsh2.out] at hq
                  exact hq)
                clear hs ES EH
                go_upto_region 38 with fail
                clear x0 x1 x2 x3 x4 x5 x6 hfz hgx hR' E0 u0 u1 u2 u3 t1 t2
                obtain ⟨b9, n9, s9, k9, h0, hR⟩ := H8.out.val
                obtain ⟨m1, m2, m3, m4, m5, m6, m7, m8, rfl, rfl, rfl, rfl⟩ := rcl_shape hR
                obtain ⟨x0, x1, x2, x3, x4, x5, x6⟩ := P7.of h0
                have hfz : ∀ i, w8.frozen? ⟨w.heap.size, i, none⟩ = false := fun i => Lib.frozen_of_heap h0 _
                have hgx : w.heap.size < w8.heap.size := lt_of_heap h0
                have hR' := Lib.hid hR
                have E0 := Lib.hid h0
                clear hR h0
                have E1 := Lib.hid (rcl_base hR'.out)
                have S1 : Stays w.heap.size w8 (w8.setCell ⟨w.heap.size, 2, none⟩ (.slice m1 ({ c with base := (applyP c.base m.e.o).1, rev := c.rev + 1, sent := c.sent, held := c.held } : Cl).base.length m2)) := Stays.set
                have Hl := Lib.hid ((H8.out).set2 (E1.out))
                have Kl := Lib.hid (K8.out.stays nF S1)
                go_upto_region 39 with fail
                refine name_world ?_
                intro wl hWwl
                rw [hWwl] at Hl Kl
                clear hWwl S1 x0 x1 x2 x3 x4 x5 x6 hfz hgx E0 hR'
                clear E1
                obtain ⟨b9, n9, s9, k9, h0, hR⟩ := Hl.out.val
                obtain ⟨m1, m2, m3, m4, m5, m6, m7, m8, rfl, rfl, rfl, rfl⟩ := rcl_shape hR
                obtain ⟨x0, x1, x2, x3, x4, x5, x6⟩ := P7.of h0
                have hfz : ∀ i, wl.frozen? ⟨w.heap.size, i, none⟩ = false := fun i => Lib.frozen_of_heap h0 _
                have hgx : w.heap.size < wl.heap.size := lt_of_heap h0
                have hR' := Lib.hid hR
                have E0 := Lib.hid h0
                clear hR h0
                have ES := Lib.hid (rcl_sent hR'.out)
                have ET := Lib.hid (rcl_held hR'.out)
                have hbl := bal (brf wl) (.cells #[.slice m5 (c.sent).length m6, .slice m7 (c.held).length m8] 53)
                have HL : Hid (CAt 87 (fun k => k ≠ w.heap.size ∧ k ≠ w.heap.size + 1 ∧ k ≠ w.heap.size + 2) (wl.alloc (.cells #[.slice m5 (c.sent).length m6, .slice m7 (c.held).length m8] 53)) w.heap.size ({ c with base := (applyP c.base m.e.o).1, rev := c.rev + 1, sent := c.sent, held := c.held, now := (applyP c.base m.e.o).1 } : Cl)) := Lib.hid (Hl.out.below hbl)
                have KL := Lib.hid (Kl.out.below hbl)
                have hAR := Lib.hid (heap_new wl (.cells #[.slice m5 (c.sent).length m6, .slice m7 (c.held).length m8] 53))
                have hES : Hid (ROp (fun k => k ≠ w.heap.size ∧ k ≠ w.heap.size + 1 ∧ k ≠ w.heap.size + 2) (wl.alloc (.cells #[.slice m5 (c.sent).length m6, .slice m7 (c.held).length m8] 53)) (.slice m5 (c.sent).length m6) (c.sent)) := Lib.hid (ROp.to ES.out (Kp.below hbl))
                have hET : Hid (ROp (fun k => k ≠ w.heap.size ∧ k ≠ w.heap.size + 1 ∧ k ≠ w.heap.size + 2) (wl.alloc (.cells #[.slice m5 (c.sent).length m6, .slice m7 (c.held).length m8] 53)) (.slice m7 (c.held).length m8) (c.held)) := Lib.hid (ROp.to ET.out (Kp.below hbl))
                have hga := lt_of_heap Kl.out.Z
                clear hbl ES ET
                go_wp2
                clear x0 x1 x2 x3 x4 x5 x6 hfz hgx hR' E0
                go_loopw [174] (fun i wr => ∃ k : Nat, k ≤ 2 ∧ i = .int .i64 k ∧ ∃ Dn, CAt 87 (fun k => k ≠ w.heap.size ∧ k ≠ w.heap.size + 1 ∧ k ≠ w.heap.size + 2) wr w.heap.size ({ c with base := (applyP c.base m.e.o).1, rev := c.rev + 1, sent := c.sent, held := c.held, now := Dn } : Cl) ∧ HrS 87 89 (fun k => k ≠ w.heap.size ∧ k ≠ w.heap.size + 1 ∧ k ≠ w.heap.size + 2) w wr (.slice oa m.e.o.length oc) m ∧ ROp (fun k => k ≠ w.heap.size ∧ k ≠ w.heap.size + 1 ∧ k ≠ w.heap.size + 2) wr (.slice m5 (c.sent).length m6) (c.sent) ∧ ROp (fun k => k ≠ w.heap.size ∧ k ≠ w.heap.size + 1 ∧ k ≠ w.heap.size + 2) wr (.slice m7 (c.held).length m8) (c.held) ∧ Hid (k = 0 → Dn = (applyP c.base m.e.o).1) ∧ Hid (k = 1 → ownsP (applyP c.base m.e.o).1 (c.sent) [] = (Dn, 0)) ∧ Hid (k = 2 → ownsP (applyP c.base m.e.o).1 (c.sent) (c.held) = (Dn, 0)) ∧ wr.heap[wl.heap.size]? = some (.cells #[.slice m5 (c.sent).length m6, .slice m7 (c.held).length m8] 53 (0, 0))) (fun i _ => 2 - (intOf i).toNat)
                case atStart => exact ⟨0, by omega, rfl, (applyP c.base m.e.o).1, HL.out, KL.out, hES.out, hET.out, Lib.hid (fun _ => rfl), Lib.hid (fun h => by omega), Lib.hid (fun h => by omega), hAR.out⟩
                case round =>
                  obtain ⟨k, hk, rfl, Dn, hHr, hKr, hSr, hTr, q0, q1, q2, harr⟩ := hrel
                  have Hr := Lib.hid hHr
                  have Kr := Lib.hid hKr
                  have Sr := Lib.hid hSr
                  have Tr := Lib.hid hTr
                  have k0 := cell_of harr 0 (.slice m5 (c.sent).length m6) rfl
                  have k1 := cell_of harr 1 (.slice m7 (c.held).length m8) rfl
                  have hal := lt_of_heap harr
                  have harr' := Lib.hid harr
                  clear HL KL hAR hES hET hHr hKr hSr hTr harr
                  rcases (by omega : k = 0 ∨ k = 1 ∨ k = 2) with rfl | rfl | rfl
                  · have e0 := Lib.hid (q0.out rfl)
                    clear q0 q1 q2
                    by_cases hx : (c.sent) = []
                    · have t1 := lpos_false hx
                      have hn1 : Hid (ownsP (applyP c.base m.e.o).1 (c.sent) ([]) = (Dn, 0)) := Lib.hid (by rw [hx, e0.out, owns_0])
                      clear hx e0
                      go_wp2
                      go_roundw
                      case rel => exact ⟨1, by omega, rfl, Dn, Hr.out, Kr.out, Sr.out, Tr.out, Lib.hid (fun h => by omega), Lib.hid (fun _ => hn1.out), Lib.hid (fun h => by omega), harr'.out⟩
                      case measure => simp [intOf]
                    · have t1 := lpos_true hx
                      obtain ⟨b9, n9, s9, k9, h0, hR⟩ := Hr.out.val
                      obtain ⟨p1, p2, p3, p4, p5, p6, p7, p8, rfl, rfl, rfl, rfl⟩ := rcl_shape hR
                      obtain ⟨x0, x1, x2, x3, x4, x5, x6⟩ := P7.of h0
                      have hfz : ∀ i, wr.frozen? ⟨w.heap.size, i, none⟩ = false := fun i => Lib.frozen_of_heap h0 _
                      have hgx : w.heap.size < wr.heap.size := lt_of_heap h0
                      have hR' := Lib.hid hR
                      have E0 := Lib.hid h0
                      clear hR h0
                      have EN := Lib.hid (rcl_now hR'.out)
                      have C := Lib.hid (refApplied_any _ _ _ _ Dn (c.sent) wr EN.out Sr.out)
                      obtain ⟨⟨Dx, Ex⟩, hD⟩ : ∃ q, applyP Dn (c.sent) = q := ⟨_, rfl⟩
                      rw [hD] at C
                      have hA1 : Hid (Ex = 0 → ownsP (applyP c.base m.e.o).1 (c.sent) [] = (Dx, 0)) := Lib.hid (fun h => by have hd := hD; rw [e0.out] at hd; rw [owns_s1 hx (by rw [hd]; exact h), hd])
                      have hA2 : Hid (Ex ≠ 0 → ownsP (applyP c.base m.e.o).1 (c.sent) (c.held) = ([], Ex)) := Lib.hid (fun h => by have hd := hD; rw [e0.out] at hd; rw [owns_e1 hx (by rw [hd]; exact h), hd])
                      clear hD e0 EN
                      go_wp2_with fail
                      refine C.out.mono ?_
                      rintro e wy ⟨ry, rfl, hry, hby⟩
                      dsimp only at *
                      obtain ⟨ya, yc, rfl, _⟩ := RdS.len hry
                      have Hy := Lib.hid (Hr.out.below hby)
                      have Ky := Lib.hid (Kr.out.below hby)
                      have Sy := Lib.hid (ROp.to Sr.out (Kp.below hby))
                      have Ty := Lib.hid (ROp.to Tr.out (Kp.below hby))
                      have Ay : Hid (RItems (fun k => k ≠ w.heap.size ∧ k ≠ w.heap.size + 1 ∧ k ≠ w.heap.size + 2) wy (.slice ya Dx.length yc) Dx) := Lib.hid (RItems.to hry (fun i hi hl => ⟨Hr.out.2.1 i hi, rfl⟩))
                      have haly := Lib.hid ((hby.block _ hal).trans harr'.out)
                      clear x0 x1 x2 x3 x4 x5 x6 hfz hgx hR' E0 C hry hby Hr Kr Sr Tr harr'
                      obtain ⟨b9, n9, s9, k9, h0, hR⟩ := Hy.out.val
                      obtain ⟨p1, p2, p3, p4, p5, p6, p7, p8, rfl, rfl, rfl, rfl⟩ := rcl_shape hR
                      obtain ⟨x0, x1, x2, x3, x4, x5, x6⟩ := P7.of h0
                      have hfz : ∀ i, wy.frozen? ⟨w.heap.size, i, none⟩ = false := fun i => Lib.frozen_of_heap h0 _
                      have hgx : w.heap.size < wy.heap.size := lt_of_heap h0
                      have hR' := Lib.hid hR
                      have E0 := Lib.hid h0
                      clear hR h0
                      have S1 : Stays w.heap.size wy (wy.setCell ⟨w.heap.size, 2, none⟩ (.slice ya Dx.length yc)) := Stays.set
                      have Hz := Lib.hid ((Hy.out).set2 (Ay.out))
                      have Kz := Lib.hid (Ky.out.stays nF S1)
                      have Sz := Lib.hid (ROp.to Sy.out (kp_stays nF S1))
                      have Tz := Lib.hid (ROp.to Ty.out (kp_stays nF S1))
                      have halz := Lib.hid ((S1.same _ (lt_of_heap haly.out) (by have := hga; omega)).trans haly.out)
                      go_upto_region 44 with fail
                      refine name_world ?_
                      intro wz0 hWwz0
                      rw [hWwz0] at Hz Kz Sz Tz halz
                      clear hWwz0 S1 x0 x1 x2 x3 x4 x5 x6 hfz hgx E0 hR'
                      clear Hy Ky Sy Ty Ay haly
                      by_cases hee : Ex = 0
                      · subst hee
                        have hn1 : Hid (ownsP (applyP c.base m.e.o).1 (c.sent) ([]) = (Dx, 0)) := Lib.hid (hA1.out rfl)
                        clear hA1 hA2
                        go_wp2
                        go_roundw
                        case rel => exact ⟨1, by omega, rfl, Dx, Hz.out, Kz.out, Sz.out, Tz.out, Lib.hid (fun h => by omega), Lib.hid (fun _ => hn1.out), Lib.hid (fun h => by omega), halz.out⟩
                        case measure => simp [intOf]
                      · have hee2 : (Ex != 0) = true := by simpa using hee
                        have e2 := hX.out
                        rw [hA2.out hee, if_pos hee] at e2
                        have hR1 : Hid (giveC ({ c with base := (applyP c.base m.e.o).1, rev := c.rev + 1, sent := c.sent, held := c.held, now := Dx } : Cl) = R1) := Lib.hid e2
                        clear e2 hX hA1 hA2 hee
                        obtain ⟨b9, n9, s9, k9, h0, hR⟩ := Hz.out.val
                        obtain ⟨p1, p2, p3, p4, p5, p6, p7, p8, rfl, rfl, rfl, rfl⟩ := rcl_shape hR
                        obtain ⟨x0, x1, x2, x3, x4, x5, x6⟩ := P7.of h0
                        have hfz : ∀ i, wz0.frozen? ⟨w.heap.size, i, none⟩ = false := fun i => Lib.frozen_of_heap h0 _
                        have hgx : w.heap.size < wz0.heap.size := lt_of_heap h0
                        have hR' := Lib.hid hR
                        have E0 := Lib.hid h0
                        clear hR h0
                        go_wp2_with fail
                        refine (refGive_any _ _ _ _ _ _ _ _ _ _ _ _ _ _ _ wz0).mono ?_
                        rintro e wg ⟨rfl, hbg⟩
                        have Kg := Lib.hid (Kz.out.below hbg)
                        clear x0 x1 x2 x3 x4 x5 x6 hfz hgx
                        obtain ⟨y0, y1, y2, y3, y4, y5, y6⟩ := P7.of Kg.out.Z
                        have hfz2 : ∀ i, wg.frozen? ⟨w.heap.size + 2, i, none⟩ = false := fun i => Lib.frozen_of_heap Kg.out.Z _
                        have hzz := lt_of_heap Kg.out.Z
                        go_wp2
                        obtain ⟨q1, q2⟩ := set7z Kg.out.Z (.int .i64 (({ c with base := (applyP c.base m.e.o).1, rev := c.rev + 1, sent := c.sent, held := c.held, now := Dx } : Cl)).rev) (.slice p1 (({ c with base := (applyP c.base m.e.o).1, rev := c.rev + 1, sent := c.sent, held := c.held, now := Dx } : Cl)).base.length p2) (.slice p1 (({ c with base := (applyP c.base m.e.o).1, rev := c.rev + 1, sent := c.sent, held := c.held, now := Dx } : Cl)).base.length p2) (.int .i64 (({ c with base := (applyP c.base m.e.o).1, rev := c.rev + 1, sent := c.sent, held := c.held, now := Dx } : Cl)).seq) (.slice none 0 0) (.slice none 0 0) (.bool (({ c with base := (applyP c.base m.e.o).1, rev := c.rev + 1, sent := c.sent, held := c.held, now := Dx } : Cl)).joined)
                        generalize hwz : (((((((wg.setCell ⟨w.heap.size + 2, 0, none⟩ _).setCell ⟨w.heap.size + 2, 1, none⟩ _).setCell ⟨w.heap.size + 2, 2, none⟩ _).setCell ⟨w.heap.size + 2, 3, none⟩ _).setCell ⟨w.heap.size + 2, 4, none⟩ _).setCell ⟨w.heap.size + 2, 5, none⟩ _).setCell ⟨w.heap.size + 2, 6, none⟩ _) = wz at *
                        obtain ⟨z0, z1, z2, z3, z4, z5, z6⟩ := P7.of q1
                        exact bodyPost_ret (v := .tuple #[.agg #[.int .i64 (({ c with base := (applyP c.base m.e.o).1, rev := c.rev + 1, sent := c.sent, held := c.held, now := Dx } : Cl)).rev, .slice p1 (({ c with base := (applyP c.base m.e.o).1, rev := c.rev + 1, sent := c.sent, held := c.held, now := Dx } : Cl)).base.length p2, .slice p1 (({ c with base := (applyP c.base m.e.o).1, rev := c.rev + 1, sent := c.sent, held := c.held, now := Dx } : Cl)).base.length p2, .int .i64 (({ c with base := (applyP c.base m.e.o).1, rev := c.rev + 1, sent := c.sent, held := c.held, now := Dx } : Cl)).seq, .slice none 0 0, .slice none 0 0, .bool (({ c with base := (applyP c.base m.e.o).1, rev := c.rev + 1, sent := c.sent, held := c.held, now := Dx } : Cl)).joined], .bool false, .int .i64 0]) (by simp [results, Try.results71, go_sem, z0, z1, z2, z3, z4, z5, z6]) rfl ⟨_, rfl, (by rw [← hR1.out]; exact RCl.to (RCl.give (RCl.to hR'.out (Kp.below hbg))) (fun i hi hl => ⟨trivial, q2.same i hl hi.2.2⟩)), Kg.out.B.trans (q2.bel.mono (by omega))⟩
                  · have e0 := Lib.hid (q1.out rfl)
                    clear q0 q1 q2
                    by_cases hx : (c.held) = []
                    · have t1 := lpos_false hx
                      have hn1 : Hid (ownsP (applyP c.base m.e.o).1 (c.sent) (c.held) = (Dn, 0)) := Lib.hid (by rw [hx]; exact e0.out)
                      clear hx e0
                      go_wp2
                      go_roundw
                      case rel => exact ⟨2, by omega, rfl, Dn, Hr.out, Kr.out, Sr.out, Tr.out, Lib.hid (fun h => by omega), Lib.hid (fun h => by omega), Lib.hid (fun _ => hn1.out), harr'.out⟩
                      case measure => simp [intOf]
                    · have t1 := lpos_true hx
                      obtain ⟨b9, n9, s9, k9, h0, hR⟩ := Hr.out.val
                      obtain ⟨p1, p2, p3, p4, p5, p6, p7, p8, rfl, rfl, rfl, rfl⟩ := rcl_shape hR
                      obtain ⟨x0, x1, x2, x3, x4, x5, x6⟩ := P7.of h0
                      have hfz : ∀ i, wr.frozen? ⟨w.heap.size, i, none⟩ = false := fun i => Lib.frozen_of_heap h0 _
                      have hgx : w.heap.size < wr.heap.size := lt_of_heap h0
                      have hR' := Lib.hid hR
                      have E0 := Lib.hid h0
                      clear hR h0
                      have EN := Lib.hid (rcl_now hR'.out)
                      have C := Lib.hid (refApplied_any _ _ _ _ Dn (c.held) wr EN.out Tr.out)
                      obtain ⟨⟨Dx, Ex⟩, hD⟩ : ∃ q, applyP Dn (c.held) = q := ⟨_, rfl⟩
                      rw [hD] at C
                      have hA0 := owns_s2 (fun h => hx (hsh2.out h)) hx e0.out
                      have hA1 : Hid (Ex = 0 → ownsP (applyP c.base m.e.o).1 (c.sent) (c.held) = (Dx, 0)) := Lib.hid (fun h => by rw [hA0, hD, h])
                      have hA2 : Hid (Ex ≠ 0 → ownsP (applyP c.base m.e.o).1 (c.sent) (c.held) = (Dx, Ex)) := Lib.hid (fun h => by rw [hA0, hD])
                      clear hA0
                      clear hD e0 EN
                      go_wp2_with fail
                      refine C.out.mono ?_
                      rintro e wy ⟨ry, rfl, hry, hby⟩
                      dsimp only at *
                      obtain ⟨ya, yc, rfl, _⟩ := RdS.len hry
                      have Hy := Lib.hid (Hr.out.below hby)
                      have Ky := Lib.hid (Kr.out.below hby)
                      have Sy := Lib.hid (ROp.to Sr.out (Kp.below hby))
                      have Ty := Lib.hid (ROp.to Tr.out (Kp.below hby))
                      have Ay : Hid (RItems (fun k => k ≠ w.heap.size ∧ k ≠ w.heap.size + 1 ∧ k ≠ w.heap.size + 2) wy (.slice ya Dx.length yc) Dx) := Lib.hid (RItems.to hry (fun i hi hl => ⟨Hr.out.2.1 i hi, rfl⟩))
                      have haly := Lib.hid ((hby.block _ hal).trans harr'.out)
                      clear x0 x1 x2 x3 x4 x5 x6 hfz hgx hR' E0 C hry hby Hr Kr Sr Tr harr'
                      obtain ⟨b9, n9, s9, k9, h0, hR⟩ := Hy.out.val
                      obtain ⟨p1, p2, p3, p4, p5, p6, p7, p8, rfl, rfl, rfl, rfl⟩ := rcl_shape hR
                      obtain ⟨x0, x1, x2, x3, x4, x5, x6⟩ := P7.of h0
                      have hfz : ∀ i, wy.frozen? ⟨w.heap.size, i, none⟩ = false := fun i => Lib.frozen_of_heap h0 _
                      have hgx : w.heap.size < wy.heap.size := lt_of_heap h0
                      have hR' := Lib.hid hR
                      have E0 := Lib.hid h0
                      clear hR h0
                      have S1 : Stays w.heap.size wy (wy.setCell ⟨w.heap.size, 2, none⟩ (.slice ya Dx.length yc)) := Stays.set
                      have Hz := Lib.hid ((Hy.out).set2 (Ay.out))
                      have Kz := Lib.hid (Ky.out.stays nF S1)
                      have Sz := Lib.hid (ROp.to Sy.out (kp_stays nF S1))
                      have Tz := Lib.hid (ROp.to Ty.out (kp_stays nF S1))
                      have halz := Lib.hid ((S1.same _ (lt_of_heap haly.out) (by have := hga; omega)).trans haly.out)
                      go_upto_region 44 with fail
                      refine name_world ?_
                      intro wz0 hWwz0
                      rw [hWwz0] at Hz Kz Sz Tz halz
                      clear hWwz0 S1 x0 x1 x2 x3 x4 x5 x6 hfz hgx E0 hR'
                      clear Hy Ky Sy Ty Ay haly
                      by_cases hee : Ex = 0
                      · subst hee
                        have hn1 : Hid (ownsP (applyP c.base m.e.o).1 (c.sent) (c.held) = (Dx, 0)) := Lib.hid (hA1.out rfl)
                        clear hA1 hA2
                        go_wp2
                        go_roundw
                        case rel => exact ⟨2, by omega, rfl, Dx, Hz.out, Kz.out, Sz.out, Tz.out, Lib.hid (fun h => by omega), Lib.hid (fun h => by omega), Lib.hid (fun _ => hn1.out), halz.out⟩
                        case measure => simp [intOf]
                      · have hee2 : (Ex != 0) = true := by simpa using hee
                        have e2 := hX.out
                        rw [hA2.out hee, if_pos hee] at e2
                        have hR1 : Hid (giveC ({ c with base := (applyP c.base m.e.o).1, rev := c.rev + 1, sent := c.sent, held := c.held, now := Dx } : Cl) = R1) := Lib.hid e2
                        clear e2 hX hA1 hA2 hee
                        obtain ⟨b9, n9, s9, k9, h0, hR⟩ := Hz.out.val
                        obtain ⟨p1, p2, p3, p4, p5, p6, p7, p8, rfl, rfl, rfl, rfl⟩ := rcl_shape hR
                        obtain ⟨x0, x1, x2, x3, x4, x5, x6⟩ := P7.of h0
                        have hfz : ∀ i, wz0.frozen? ⟨w.heap.size, i, none⟩ = false := fun i => Lib.frozen_of_heap h0 _
                        have hgx : w.heap.size < wz0.heap.size := lt_of_heap h0
                        have hR' := Lib.hid hR
                        have E0 := Lib.hid h0
                        clear hR h0
                        go_wp2_with fail
                        refine (refGive_any _ _ _ _ _ _ _ _ _ _ _ _ _ _ _ wz0).mono ?_
                        rintro e wg ⟨rfl, hbg⟩
                        have Kg := Lib.hid (Kz.out.below hbg)
                        clear x0 x1 x2 x3 x4 x5 x6 hfz hgx
                        obtain ⟨y0, y1, y2, y3, y4, y5, y6⟩ := P7.of Kg.out.Z
                        have hfz2 : ∀ i, wg.frozen? ⟨w.heap.size + 2, i, none⟩ = false := fun i => Lib.frozen_of_heap Kg.out.Z _
                        have hzz := lt_of_heap Kg.out.Z
                        go_wp2
                        obtain ⟨q1, q2⟩ := set7z Kg.out.Z (.int .i64 (({ c with base := (applyP c.base m.e.o).1, rev := c.rev + 1, sent := c.sent, held := c.held, now := Dx } : Cl)).rev) (.slice p1 (({ c with base := (applyP c.base m.e.o).1, rev := c.rev + 1, sent := c.sent, held := c.held, now := Dx } : Cl)).base.length p2) (.slice p1 (({ c with base := (applyP c.base m.e.o).1, rev := c.rev + 1, sent := c.sent, held := c.held, now := Dx } : Cl)).base.length p2) (.int .i64 (({ c with base := (applyP c.base m.e.o).1, rev := c.rev + 1, sent := c.sent, held := c.held, now := Dx } : Cl)).seq) (.slice none 0 0) (.slice none 0 0) (.bool (({ c with base := (applyP c.base m.e.o).1, rev := c.rev + 1, sent := c.sent, held := c.held, now := Dx } : Cl)).joined)
                        generalize hwz : (((((((wg.setCell ⟨w.heap.size + 2, 0, none⟩ _).setCell ⟨w.heap.size + 2, 1, none⟩ _).setCell ⟨w.heap.size + 2, 2, none⟩ _).setCell ⟨w.heap.size + 2, 3, none⟩ _).setCell ⟨w.heap.size + 2, 4, none⟩ _).setCell ⟨w.heap.size + 2, 5, none⟩ _).setCell ⟨w.heap.size + 2, 6, none⟩ _) = wz at *
                        obtain ⟨z0, z1, z2, z3, z4, z5, z6⟩ := P7.of q1
                        exact bodyPost_ret (v := .tuple #[.agg #[.int .i64 (({ c with base := (applyP c.base m.e.o).1, rev := c.rev + 1, sent := c.sent, held := c.held, now := Dx } : Cl)).rev, .slice p1 (({ c with base := (applyP c.base m.e.o).1, rev := c.rev + 1, sent := c.sent, held := c.held, now := Dx } : Cl)).base.length p2, .slice p1 (({ c with base := (applyP c.base m.e.o).1, rev := c.rev + 1, sent := c.sent, held := c.held, now := Dx } : Cl)).base.length p2, .int .i64 (({ c with base := (applyP c.base m.e.o).1, rev := c.rev + 1, sent := c.sent, held := c.held, now := Dx } : Cl)).seq, .slice none 0 0, .slice none 0 0, .bool (({ c with base := (applyP c.base m.e.o).1, rev := c.rev + 1, sent := c.sent, held := c.held, now := Dx } : Cl)).joined], .bool false, .int .i64 0]) (by simp [results, Try.results71, go_sem, z0, z1, z2, z3, z4, z5, z6]) rfl ⟨_, rfl, (by rw [← hR1.out]; exact RCl.to (RCl.give (RCl.to hR'.out (Kp.below hbg))) (fun i hi hl => ⟨trivial, q2.same i hl hi.2.2⟩)), Kg.out.B.trans (q2.bel.mono (by omega))⟩
                  · have e0 := Lib.hid (q2.out rfl)
                    have e2 := hX.out
                    rw [e0.out, if_neg (by simp)] at e2
                    have hR1 := Lib.hid e2
                    clear q0 q1 q2 e0 e2 hX k0 k1
                    obtain ⟨b9, n9, s9, k9, h0, hR⟩ := Hr.out.val
                    obtain ⟨p1, p2, p3, p4, p5, p6, p7, p8, rfl, rfl, rfl, rfl⟩ := rcl_shape hR
                    obtain ⟨x0, x1, x2, x3, x4, x5, x6⟩ := P7.of h0
                    have hfz : ∀ i, wr.frozen? ⟨w.heap.size, i, none⟩ = false := fun i => Lib.frozen_of_heap h0 _
                    have hgx : w.heap.size < wr.heap.size := lt_of_heap h0
                    have hR' := Lib.hid hR
                    have E0 := Lib.hid h0
                    clear hR h0
                    obtain ⟨y0, y1, y2, y3, y4, y5, y6⟩ := P7.of Kr.out.Z
                    have hfz2 : ∀ i, wr.frozen? ⟨w.heap.size + 2, i, none⟩ = false := fun i => Lib.frozen_of_heap Kr.out.Z _
                    have hzz := lt_of_heap Kr.out.Z
                    go_wp2
                    obtain ⟨q1, q2⟩ := set7z Kr.out.Z (.int .i64 (({ c with base := (applyP c.base m.e.o).1, rev := c.rev + 1, sent := c.sent, held := c.held, now := Dn } : Cl)).rev) (.slice p1 (({ c with base := (applyP c.base m.e.o).1, rev := c.rev + 1, sent := c.sent, held := c.held, now := Dn } : Cl)).base.length p2) (.slice p3 (({ c with base := (applyP c.base m.e.o).1, rev := c.rev + 1, sent := c.sent, held := c.held, now := Dn } : Cl)).now.length p4) (.int .i64 (({ c with base := (applyP c.base m.e.o).1, rev := c.rev + 1, sent := c.sent, held := c.held, now := Dn } : Cl)).seq) (.slice p5 (({ c with base := (applyP c.base m.e.o).1, rev := c.rev + 1, sent := c.sent, held := c.held, now := Dn } : Cl)).sent.length p6) (.slice p7 (({ c with base := (applyP c.base m.e.o).1, rev := c.rev + 1, sent := c.sent, held := c.held, now := Dn } : Cl)).held.length p8) (.bool (({ c with base := (applyP c.base m.e.o).1, rev := c.rev + 1, sent := c.sent, held := c.held, now := Dn } : Cl)).joined)
                    generalize hwz : (((((((wr.setCell ⟨w.heap.size + 2, 0, none⟩ _).setCell ⟨w.heap.size + 2, 1, none⟩ _).setCell ⟨w.heap.size + 2, 2, none⟩ _).setCell ⟨w.heap.size + 2, 3, none⟩ _).setCell ⟨w.heap.size + 2, 4, none⟩ _).setCell ⟨w.heap.size + 2, 5, none⟩ _).setCell ⟨w.heap.size + 2, 6, none⟩ _) = wz at *
                    obtain ⟨z0, z1, z2, z3, z4, z5, z6⟩ := P7.of q1
                    exact bodyPost_ret (v := .tuple #[.agg #[.int .i64 (({ c with base := (applyP c.base m.e.o).1, rev := c.rev + 1, sent := c.sent, held := c.held, now := Dn } : Cl)).rev, .slice p1 (({ c with base := (applyP c.base m.e.o).1, rev := c.rev + 1, sent := c.sent, held := c.held, now := Dn } : Cl)).base.length p2, .slice p3 (({ c with base := (applyP c.base m.e.o).1, rev := c.rev + 1, sent := c.sent, held := c.held, now := Dn } : Cl)).now.length p4, .int .i64 (({ c with base := (applyP c.base m.e.o).1, rev := c.rev + 1, sent := c.sent, held := c.held, now := Dn } : Cl)).seq, .slice p5 (({ c with base := (applyP c.base m.e.o).1, rev := c.rev + 1, sent := c.sent, held := c.held, now := Dn } : Cl)).sent.length p6, .slice p7 (({ c with base := (applyP c.base m.e.o).1, rev := c.rev + 1, sent := c.sent, held := c.held, now := Dn } : Cl)).held.length p8, .bool (({ c with base := (applyP c.base m.e.o).1, rev := c.rev + 1, sent := c.sent, held := c.held, now := Dn } : Cl)).joined], .bool false, .int .i64 0]) (by simp [results, Try.results71, go_sem, z0, z1, z2, z3, z4, z5, z6]) rfl ⟨_, rfl, (by rw [← hR1.out]; exact RCl.to hR'.out (fun i hi hl => ⟨trivial, q2.same i hl hi.2.2⟩)), Kr.out.B.trans (q2.bel.mono (by omega))⟩
              · have t1 := lpos_true hs
                obtain ⟨⟨O1, S1, e1⟩, hT⟩ : ∃ q, turnP m.e.o c.sent = q := ⟨_, rfl⟩
                have C2 := Lib.hid (refTurned_any _ _ _ _ m.e.o c.sent w8 K8.out.V ES.out)
                rw [hT] at C2
                go_wp2_with fail
                refine C2.out.mono ?_
                rintro e w9 ⟨r9, s9', rfl, hr9, hs9, hb9⟩
                dsimp only at *
                obtain ⟨oa9, oc9, rfl, _⟩ := RdS.len hr9
                obtain ⟨sa9, sc9, rfl, _⟩ := RdS.len hs9
                have H9 := Lib.hid (H8.out.below hb9)
                have K9 := Lib.hid (K8.out.below hb9)
                have O9 : Hid (ROp (fun k => k ≠ w.heap.size ∧ k ≠ w.heap.size + 1 ∧ k ≠ w.heap.size + 2) w9 (.slice oa9 O1.length oc9) O1) := Lib.hid (ROp.to hr9 (fun i hi hl => ⟨H8.out.2.1 i hi, rfl⟩))
                have S9 : Hid (ROp (fun k => k ≠ w.heap.size ∧ k ≠ w.heap.size + 1 ∧ k ≠ w.heap.size + 2) w9 (.slice sa9 S1.length sc9) S1) := Lib.hid (ROp.to hs9 (fun i hi hl => ⟨H8.out.2.1 i hi, rfl⟩))
                clear x0 x1 x2 x3 x4 x5 x6 hfz hgx hR' E0 u0 u1 u2 u3 hr9 hs9 hb9 C2 ES EH H8 K8
                obtain ⟨b9, n9, s9, k9, h0, hR⟩ := H9.out.val
                obtain ⟨m1, m2, m3, m4, m5, m6, m7, m8, rfl, rfl, rfl, rfl⟩ := rcl_shape hR
                obtain ⟨x0, x1, x2, x3, x4, x5, x6⟩ := P7.of h0
                have hfz : ∀ i, w9.frozen? ⟨w.heap.size, i, none⟩ = false := fun i => Lib.frozen_of_heap h0 _
                have hgx : w.heap.size < w9.heap.size := lt_of_heap h0
                have hR' := Lib.hid hR
                have E0 := Lib.hid h0
                clear hR h0
                have S1 : Stays w.heap.size w9 (w9.setCell ⟨w.heap.size, 4, none⟩ (.slice sa9 S1.length sc9)) := Stays.set
                have H10 := Lib.hid ((H9.out).set4 (S9.out))
                have K10 := Lib.hid (K9.out.stays nF S1)
                have O10 := Lib.hid (ROp.to O9.out (kp_stays nF S1))
                go_upto_region 32 with fail
                refine name_world ?_
                intro w10 hWw10
                rw [hWw10] at H10 K10 O10
                clear hWw10 S1 x0 x1 x2 x3 x4 x5 x6 hfz hgx E0 hR'
                clear H9 K9 S9 O9
                by_cases h1 : e1 = 0
                · subst h1
                  have hTe : (turnP m.e.o c.sent).2.2 = 0 := by rw [hT]
                  have hS1 : S1 ≠ [] := by have := (Turns.ne (Turns.of hTe)).2.1; rw [hT] at this; exact this
                  obtain ⟨b9, n9, s9, k9, h0, hR⟩ := H10.out.val
                  obtain ⟨m1, m2, m3, m4, m5, m6, m7, m8, rfl, rfl, rfl, rfl⟩ := rcl_shape hR
                  obtain ⟨x0, x1, x2, x3, x4, x5, x6⟩ := P7.of h0
                  have hfz : ∀ i, w10.frozen? ⟨w.heap.size, i, none⟩ = false := fun i => Lib.frozen_of_heap h0 _
                  have hgx : w.heap.size < w10.heap.size := lt_of_heap h0
                  have hR' := Lib.hid hR
                  have E0 := Lib.hid h0
                  clear hR h0
                  have EH := Lib.hid (rcl_held hR'.out)
                  by_cases hh : c.held = []
                  · have t2 := lpos_false hh
                    have hsh2 : Hid (S1 = [] → c.held = []) := Lib.hid (fun _ => hh)
                    have hX : Hid ((if (ownsP (applyP c.base m.e.o).1 (S1) (c.held)).2 ≠ 0 then giveC ({ c with base := (applyP c.base m.e.o).1, rev := c.rev + 1 } : Cl) else ({ c with base := (applyP c.base m.e.o).1, rev := c.rev + 1, sent := S1, held := c.held, now := (ownsP (applyP c.base m.e.o).1 (S1) (c.held)).1 } : Cl)) = R1) := Lib.hid (by
                      have hq := ho1.out
                      rw [other_some (s := S1) (k := c.held) he'.out (by rw [t2_1 hs hTe hh, hT, hh]), owns2_eq hsh2.out] at hq
                      exact hq)
                    clear hs hh hT hTe hS1 EH
                    go_upto_region 38 with fail
                    clear x0 x1 x2 x3 x4 x5 x6 hfz hgx hR' E0 t1 t2
                    obtain ⟨b9, n9, s9, k9, h0, hR⟩ := H10.out.val
                    obtain ⟨m1, m2, m3, m4, m5, m6, m7, m8, rfl, rfl, rfl, rfl⟩ := rcl_shape hR
                    obtain ⟨x0, x1, x2, x3, x4, x5, x6⟩ := P7.of h0
                    have hfz : ∀ i, w10.frozen? ⟨w.heap.size, i, none⟩ = false := fun i => Lib.frozen_of_heap h0 _
                    have hgx : w.heap.size < w10.heap.size := lt_of_heap h0
                    have hR' := Lib.hid hR
                    have E0 := Lib.hid h0
                    clear hR h0
                    have E1 := Lib.hid (rcl_base hR'.out)
                    have S1 : Stays w.heap.size w10 (w10.setCell ⟨w.heap.size, 2, none⟩ (.slice m1 ({ c with base := (applyP c.base m.e.o).1, rev := c.rev + 1, sent := S1, held := c.held } : Cl).base.length m2)) := Stays.set
                    have Hl := Lib.hid ((H10.out).set2 (E1.out))
                    have Kl := Lib.hid (K10.out.stays nF S1)
                    go_upto_region 39 with fail
                    refine name_world ?_
                    intro wl hWwl
                    rw [hWwl] at Hl Kl
                    clear hWwl S1 x0 x1 x2 x3 x4 x5 x6 hfz hgx E0 hR'
                    clear E1
                    obtain ⟨b9, n9, s9, k9, h0, hR⟩ := Hl.out.val
                    obtain ⟨m1, m2, m3, m4, m5, m6, m7, m8, rfl, rfl, rfl, rfl⟩ := rcl_shape hR
                    obtain ⟨x0, x1, x2, x3, x4, x5, x6⟩ := P7.of h0
                    have hfz : ∀ i, wl.frozen? ⟨w.heap.size, i, none⟩ = false := fun i => Lib.frozen_of_heap h0 _
                    have hgx : w.heap.size < wl.heap.size := lt_of_heap h0
                    have hR' := Lib.hid hR
                    have E0 := Lib.hid h0
                    clear hR h0
                    have ES := Lib.hid (rcl_sent hR'.out)
                    have ET := Lib.hid (rcl_held hR'.out)
                    have hbl := bal (brf wl) (.cells #[.slice m5 (S1).length m6, .slice m7 (c.held).length m8] 53)
                    have HL : Hid (CAt 87 (fun k => k ≠ w.heap.size ∧ k ≠ w.heap.size + 1 ∧ k ≠ w.heap.size + 2) (wl.alloc (.cells #[.slice m5 (S1).length m6, .slice m7 (c.held).length m8] 53)) w.heap.size ({ c with base := (applyP c.base m.e.o).1, rev := c.rev + 1, sent := S1, held := c.held, now := (applyP c.base m.e.o).1 } : Cl)) := Lib.hid (Hl.out.below hbl)
                    have KL := Lib.hid (Kl.out.below hbl)
                    have hAR := Lib.hid (heap_new wl (.cells #[.slice m5 (S1).length m6, .slice m7 (c.held).length m8] 53))
                    have hES : Hid (ROp (fun k => k ≠ w.heap.size ∧ k ≠ w.heap.size + 1 ∧ k ≠ w.heap.size + 2) (wl.alloc (.cells #[.slice m5 (S1).length m6, .slice m7 (c.held).length m8] 53)) (.slice m5 (S1).length m6) (S1)) := Lib.hid (ROp.to ES.out (Kp.below hbl))
                    have hET : Hid (ROp (fun k => k ≠ w.heap.size ∧ k ≠ w.heap.size + 1 ∧ k ≠ w.heap.size + 2) (wl.alloc (.cells #[.slice m5 (S1).length m6, .slice m7 (c.held).length m8] 53)) (.slice m7 (c.held).length m8) (c.held)) := Lib.hid (ROp.to ET.out (Kp.below hbl))
                    have hga := lt_of_heap Kl.out.Z
                    clear hbl ES ET
                    go_wp2
                    clear x0 x1 x2 x3 x4 x5 x6 hfz hgx hR' E0
                    go_loopw [174] (fun i wr => ∃ k : Nat, k ≤ 2 ∧ i = .int .i64 k ∧ ∃ Dn, CAt 87 (fun k => k ≠ w.heap.size ∧ k ≠ w.heap.size + 1 ∧ k ≠ w.heap.size + 2) wr w.heap.size ({ c with base := (applyP c.base m.e.o).1, rev := c.rev + 1, sent := S1, held := c.held, now := Dn } : Cl) ∧ HrS 87 89 (fun k => k ≠ w.heap.size ∧ k ≠ w.heap.size + 1 ∧ k ≠ w.heap.size + 2) w wr (.slice oa m.e.o.length oc) m ∧ ROp (fun k => k ≠ w.heap.size ∧ k ≠ w.heap.size + 1 ∧ k ≠ w.heap.size + 2) wr (.slice m5 (S1).length m6) (S1) ∧ ROp (fun k => k ≠ w.heap.size ∧ k ≠ w.heap.size + 1 ∧ k ≠ w.heap.size + 2) wr (.slice m7 (c.held).length m8) (c.held) ∧ Hid (k = 0 → Dn = (applyP c.base m.e.o).1) ∧ Hid (k = 1 → ownsP (applyP c.base m.e.o).1 (S1) [] = (Dn, 0)) ∧ Hid (k = 2 → ownsP (applyP c.base m.e.o).1 (S1) (c.held) = (Dn, 0)) ∧ wr.heap[wl.heap.size]? = some (.cells #[.slice m5 (S1).length m6, .slice m7 (c.held).length m8] 53 (0, 0))) (fun i _ => 2 - (intOf i).toNat)
                    case atStart => exact ⟨0, by omega, rfl, (applyP c.base m.e.o).1, HL.out, KL.out, hES.out, hET.out, Lib.hid (fun _ => rfl), Lib.hid (fun h => by omega), Lib.hid (fun h => by omega), hAR.out⟩
                    case round =>
                      obtain ⟨k, hk, rfl, Dn, hHr, hKr, hSr, hTr, q0, q1, q2, harr⟩ := hrel
                      have Hr := Lib.hid hHr
                      have Kr := Lib.hid hKr
                      have Sr := Lib.hid hSr
                      have Tr := Lib.hid hTr
                      have k0 := cell_of harr 0 (.slice m5 (S1).length m6) rfl
                      have k1 := cell_of harr 1 (.slice m7 (c.held).length m8) rfl
                      have hal := lt_of_heap harr
                      have harr' := Lib.hid harr
                      clear HL KL hAR hES hET hHr hKr hSr hTr harr
                      rcases (by omega : k = 0 ∨ k = 1 ∨ k = 2) with rfl | rfl | rfl
                      · have e0 := Lib.hid (q0.out rfl)
                        clear q0 q1 q2
                        by_cases hx : (S1) = []
                        · have t1 := lpos_false hx
                          have hn1 : Hid (ownsP (applyP c.base m.e.o).1 (S1) ([]) = (Dn, 0)) := Lib.hid (by rw [hx, e0.out, owns_0])
                          clear hx e0
                          go_wp2
                          go_roundw
                          case rel => exact ⟨1, by omega, rfl, Dn, Hr.out, Kr.out, Sr.out, Tr.out, Lib.hid (fun h => by omega), Lib.hid (fun _ => hn1.out), Lib.hid (fun h => by omega), harr'.out⟩
                          case measure => simp [intOf]
                        · have t1 := lpos_true hx
                          obtain ⟨b9, n9, s9, k9, h0, hR⟩ := Hr.out.val
                          obtain ⟨p1, p2, p3, p4, p5, p6, p7, p8, rfl, rfl, rfl, rfl⟩ := rcl_shape hR
                          obtain ⟨x0, x1, x2, x3, x4, x5, x6⟩ := P7.of h0
                          have hfz : ∀ i, wr.frozen? ⟨w.heap.size, i, none⟩ = false := fun i => Lib.frozen_of_heap h0 _
                          have hgx : w.heap.size < wr.heap.size := lt_of_heap h0
                          have hR' := Lib.hid hR
                          have E0 := Lib.hid h0
                          clear hR h0
                          have EN := Lib.hid (rcl_now hR'.out)
                          have C := Lib.hid (refApplied_any _ _ _ _ Dn (S1) wr EN.out Sr.out)
                          obtain ⟨⟨Dx, Ex⟩, hD⟩ : ∃ q, applyP Dn (S1) = q := ⟨_, rfl⟩
                          rw [hD] at C
                          have hA1 : Hid (Ex = 0 → ownsP (applyP c.base m.e.o).1 (S1) [] = (Dx, 0)) := Lib.hid (fun h => by have hd := hD; rw [e0.out] at hd; rw [owns_s1 hx (by rw [hd]; exact h), hd])
                          have hA2 : Hid (Ex ≠ 0 → ownsP (applyP c.base m.e.o).1 (S1) (c.held) = ([], Ex)) := Lib.hid (fun h => by have hd := hD; rw [e0.out] at hd; rw [owns_e1 hx (by rw [hd]; exact h), hd])
                          clear hD e0 EN
                          go_wp2_with fail
                          refine C.out.mono ?_
                          rintro e wy ⟨ry, rfl, hry, hby⟩
                          dsimp only at *
                          obtain ⟨ya, yc, rfl, _⟩ := RdS.len hry
                          have Hy := Lib.hid (Hr.out.below hby)
                          have Ky := Lib.hid (Kr.out.below hby)
                          have Sy := Lib.hid (ROp.to Sr.out (Kp.below hby))
                          have Ty := Lib.hid (ROp.to Tr.out (Kp.below hby))
                          have Ay : Hid (RItems (fun k => k ≠ w.heap.size ∧ k ≠ w.heap.size + 1 ∧ k ≠ w.heap.size + 2) wy (.slice ya Dx.length yc) Dx) := Lib.hid (RItems.to hry (fun i hi hl => ⟨Hr.out.2.1 i hi, rfl⟩))
                          have haly := Lib.hid ((hby.block _ hal).trans harr'.out)
                          clear x0 x1 x2 x3 x4 x5 x6 hfz hgx hR' E0 C hry hby Hr Kr Sr Tr harr'
                          obtain ⟨b9, n9, s9, k9, h0, hR⟩ := Hy.out.val
                          obtain ⟨p1, p2, p3, p4, p5, p6, p7, p8, rfl, rfl, rfl, rfl⟩ := rcl_shape hR
                          obtain ⟨x0, x1, x2, x3, x4, x5, x6⟩ := P7.of h0
                          have hfz : ∀ i, wy.frozen? ⟨w.heap.size, i, none⟩ = false := fun i => Lib.frozen_of_heap h0 _
                          have hgx : w.heap.size < wy.heap.size := lt_of_heap h0
                          have hR' := Lib.hid hR
                          have E0 := Lib.hid h0
                          clear hR h0
                          have S1 : Stays w.heap.size wy (wy.setCell ⟨w.heap.size, 2, none⟩ (.slice ya Dx.length yc)) := Stays.set
                          have Hz := Lib.hid ((Hy.out).set2 (Ay.out))
                          have Kz := Lib.hid (Ky.out.stays nF S1)
                          have Sz := Lib.hid (ROp.to Sy.out (kp_stays nF S1))
                          have Tz := Lib.hid (ROp.to Ty.out (kp_stays nF S1))
                          have halz := Lib.hid ((S1.same _ (lt_of_heap haly.out) (by have := hga; omega)).trans haly.out)
                          go_upto_region 44 with fail
                          refine name_world ?_
                          intro wz0 hWwz0
                          rw [hWwz0] at Hz Kz Sz Tz halz
                          clear hWwz0 S1 x0 x1 x2 x3 x4 x5 x6 hfz hgx E0 hR'
                          clear Hy Ky Sy Ty Ay haly
                          by_cases hee : Ex = 0
                          · subst hee
                            have hn1 : Hid (ownsP (applyP c.base m.e.o).1 (S1) ([]) = (Dx, 0)) := Lib.hid (hA1.out rfl)
                            clear hA1 hA2
                            go_wp2
                            go_roundw
                            case rel => exact ⟨1, by omega, rfl, Dx, Hz.out, Kz.out, Sz.out, Tz.out, Lib.hid (fun h => by omega), Lib.hid (fun _ => hn1.out), Lib.hid (fun h => by omega), halz.out⟩
                            case measure => simp [intOf]
                          · have hee2 : (Ex != 0) = true := by simpa using hee
                            have e2 := hX.out
                            rw [hA2.out hee, if_pos hee] at e2
                            have hR1 : Hid (giveC ({ c with base := (applyP c.base m.e.o).1, rev := c.rev + 1, sent := S1, held := c.held, now := Dx } : Cl) = R1) := Lib.hid e2
                            clear e2 hX hA1 hA2 hee
                            obtain ⟨b9, n9, s9, k9, h0, hR⟩ := Hz.out.val
                            obtain ⟨p1, p2, p3, p4, p5, p6, p7, p8, rfl, rfl, rfl, rfl⟩ := rcl_shape hR
                            obtain ⟨x0, x1, x2, x3, x4, x5, x6⟩ := P7.of h0
                            have hfz : ∀ i, wz0.frozen? ⟨w.heap.size, i, none⟩ = false := fun i => Lib.frozen_of_heap h0 _
                            have hgx : w.heap.size < wz0.heap.size := lt_of_heap h0
                            have hR' := Lib.hid hR
                            have E0 := Lib.hid h0
                            clear hR h0
                            go_wp2_with fail
                            refine (refGive_any _ _ _ _ _ _ _ _ _ _ _ _ _ _ _ wz0).mono ?_
                            rintro e wg ⟨rfl, hbg⟩
                            have Kg := Lib.hid (Kz.out.below hbg)
                            clear x0 x1 x2 x3 x4 x5 x6 hfz hgx
                            obtain ⟨y0, y1, y2, y3, y4, y5, y6⟩ := P7.of Kg.out.Z
                            have hfz2 : ∀ i, wg.frozen? ⟨w.heap.size + 2, i, none⟩ = false := fun i => Lib.frozen_of_heap Kg.out.Z _
                            have hzz := lt_of_heap Kg.out.Z
                            go_wp2
                            obtain ⟨q1, q2⟩ := set7z Kg.out.Z (.int .i64 (({ c with base := (applyP c.base m.e.o).1, rev := c.rev + 1, sent := S1, held := c.held, now := Dx } : Cl)).rev) (.slice p1 (({ c with base := (applyP c.base m.e.o).1, rev := c.rev + 1, sent := S1, held := c.held, now := Dx } : Cl)).base.length p2) (.slice p1 (({ c with base := (applyP c.base m.e.o).1, rev := c.rev + 1, sent := S1, held := c.held, now := Dx } : Cl)).base.length p2) (.int .i64 (({ c with base := (applyP c.base m.e.o).1, rev := c.rev + 1, sent := S1, held := c.held, now := Dx } : Cl)).seq) (.slice none 0 0) (.slice none 0 0) (.bool (({ c with base := (applyP c.base m.e.o).1, rev := c.rev + 1, sent := S1, held := c.held, now := Dx } : Cl)).joined)
                            generalize hwz : (((((((wg.setCell ⟨w.heap.size + 2, 0, none⟩ _).setCell ⟨w.heap.size + 2, 1, none⟩ _).setCell ⟨w.heap.size + 2, 2, none⟩ _).setCell ⟨w.heap.size + 2, 3, none⟩ _).setCell ⟨w.heap.size + 2, 4, none⟩ _).setCell ⟨w.heap.size + 2, 5, none⟩ _).setCell ⟨w.heap.size + 2, 6, none⟩ _) = wz at *
                            obtain ⟨z0, z1, z2, z3, z4, z5, z6⟩ := P7.of q1
                            exact bodyPost_ret (v := .tuple #[.agg #[.int .i64 (({ c with base := (applyP c.base m.e.o).1, rev := c.rev + 1, sent := S1, held := c.held, now := Dx } : Cl)).rev, .slice p1 (({ c with base := (applyP c.base m.e.o).1, rev := c.rev + 1, sent := S1, held := c.held, now := Dx } : Cl)).base.length p2, .slice p1 (({ c with base := (applyP c.base m.e.o).1, rev := c.rev + 1, sent := S1, held := c.held, now := Dx } : Cl)).base.length p2, .int .i64 (({ c with base := (applyP c.base m.e.o).1, rev := c.rev + 1, sent := S1, held := c.held, now := Dx } : Cl)).seq, .slice none 0 0, .slice none 0 0, .bool (({ c with base := (applyP c.base m.e.o).1, rev := c.rev + 1, sent := S1, held := c.held, now := Dx } : Cl)).joined], .bool false, .int .i64 0]) (by simp [results, Try.results71, go_sem, z0, z1, z2, z3, z4, z5, z6]) rfl ⟨_, rfl, (by rw [← hR1.out]; exact RCl.to (RCl.give (RCl.to hR'.out (Kp.below hbg))) (fun i hi hl => ⟨trivial, q2.same i hl hi.2.2⟩)), Kg.out.B.trans (q2.bel.mono (by omega))⟩
                      · have e0 := Lib.hid (q1.out rfl)
                        clear q0 q1 q2
                        by_cases hx : (c.held) = []
                        · have t1 := lpos_false hx
                          have hn1 : Hid (ownsP (applyP c.base m.e.o).1 (S1) (c.held) = (Dn, 0)) := Lib.hid (by rw [hx]; exact e0.out)
                          clear hx e0
                          go_wp2
                          go_roundw
                          case rel => exact ⟨2, by omega, rfl, Dn, Hr.out, Kr.out, Sr.out, Tr.out, Lib.hid (fun h => by omega), Lib.hid (fun h => by omega), Lib.hid (fun _ => hn1.out), harr'.out⟩
                          case measure => simp [intOf]
                        · have t1 := lpos_true hx
                          obtain ⟨b9, n9, s9, k9, h0, hR⟩ := Hr.out.val
                          obtain ⟨p1, p2, p3, p4, p5, p6, p7, p8, rfl, rfl, rfl, rfl⟩ := rcl_shape hR
                          obtain ⟨x0, x1, x2, x3, x4, x5, x6⟩ := P7.of h0
                          have hfz : ∀ i, wr.frozen? ⟨w.heap.size, i, none⟩ = false := fun i => Lib.frozen_of_heap h0 _
                          have hgx : w.heap.size < wr.heap.size := lt_of_heap h0
                          have hR' := Lib.hid hR
                          have E0 := Lib.hid h0
                          clear hR h0
                          have EN := Lib.hid (rcl_now hR'.out)
                          have C := Lib.hid (refApplied_any _ _ _ _ Dn (c.held) wr EN.out Tr.out)
                          obtain ⟨⟨Dx, Ex⟩, hD⟩ : ∃ q, applyP Dn (c.held) = q := ⟨_, rfl⟩
                          rw [hD] at C
                          have hA0 := owns_s2 (fun h => hx (hsh2.out h)) hx e0.out
                          have hA1 : Hid (Ex = 0 → ownsP (applyP c.base m.e.o).1 (S1) (c.held) = (Dx, 0)) := Lib.hid (fun h => by rw [hA0, hD, h])
                          have hA2 : Hid (Ex ≠ 0 → ownsP (applyP c.base m.e.o).1 (S1) (c.held) = (Dx, Ex)) := Lib.hid (fun h => by rw [hA0, hD])
                          clear hA0
                          clear hD e0 EN
                          go_wp2_with fail
                          refine C.out.mono ?_
                          rintro e wy ⟨ry, rfl, hry, hby⟩
                          dsimp only at *
                          obtain ⟨ya, yc, rfl, _⟩ := RdS.len hry
                          have Hy := Lib.hid (Hr.out.below hby)
                          have Ky := Lib.hid (Kr.out.below hby)
                          have Sy := Lib.hid (ROp.to Sr.out (Kp.below hby))
                          have Ty := Lib.hid (ROp.to Tr.out (Kp.below hby))
                          have Ay : Hid (RItems (fun k => k ≠ w.heap.size ∧ k ≠ w.heap.size + 1 ∧ k ≠ w.heap.size + 2) wy (.slice ya Dx.length yc) Dx) := Lib.hid (RItems.to hry (fun i hi hl => ⟨Hr.out.2.1 i hi, rfl⟩))
                          have haly := Lib.hid ((hby.block _ hal).trans harr'.out)
                          clear x0 x1 x2 x3 x4 x5 x6 hfz hgx hR' E0 C hry hby Hr Kr Sr Tr harr'
                          obtain ⟨b9, n9, s9, k9, h0, hR⟩ := Hy.out.val
                          obtain ⟨p1, p2, p3, p4, p5, p6, p7, p8, rfl, rfl, rfl, rfl⟩ := rcl_shape hR
                          obtain ⟨x0, x1, x2, x3, x4, x5, x6⟩ := P7.of h0
                          have hfz : ∀ i, wy.frozen? ⟨w.heap.size, i, none⟩ = false := fun i => Lib.frozen_of_heap h0 _
                          have hgx : w.heap.size < wy.heap.size := lt_of_heap h0
                          have hR' := Lib.hid hR
                          have E0 := Lib.hid h0
                          clear hR h0
                          have S1 : Stays w.heap.size wy (wy.setCell ⟨w.heap.size, 2, none⟩ (.slice ya Dx.length yc)) := Stays.set
                          have Hz := Lib.hid ((Hy.out).set2 (Ay.out))
                          have Kz := Lib.hid (Ky.out.stays nF S1)
                          have Sz := Lib.hid (ROp.to Sy.out (kp_stays nF S1))
                          have Tz := Lib.hid (ROp.to Ty.out (kp_stays nF S1))
                          have halz := Lib.hid ((S1.same _ (lt_of_heap haly.out) (by have := hga; omega)).trans haly.out)
                          go_upto_region 44 with fail
                          refine name_world ?_
                          intro wz0 hWwz0
                          rw [hWwz0] at Hz Kz Sz Tz halz
                          clear hWwz0 S1 x0 x1 x2 x3 x4 x5 x6 hfz hgx E0 hR'
                          clear Hy Ky Sy Ty Ay haly
                          by_cases hee : Ex = 0
                          · subst hee
                            have hn1 : Hid (ownsP (applyP c.base m.e.o).1 (S1) (c.held) = (Dx, 0)) := Lib.hid (hA1.out rfl)
                            clear hA1 hA2
                            go_wp2
                            go_roundw
                            case rel => exact ⟨2, by omega, rfl, Dx, Hz.out, Kz.out, Sz.out, Tz.out, Lib.hid (fun h => by omega), Lib.hid (fun h => by omega), Lib.hid (fun _ => hn1.out), halz.out⟩
                            case measure => simp [intOf]
                          · have hee2 : (Ex != 0) = true := by simpa using hee
                            have e2 := hX.out
                            rw [hA2.out hee, if_pos hee] at e2
                            have hR1 : Hid (giveC ({ c with base := (applyP c.base m.e.o).1, rev := c.rev + 1, sent := S1, held := c.held, now := Dx } : Cl) = R1) := Lib.hid e2
                            clear e2 hX hA1 hA2 hee
                            obtain ⟨b9, n9, s9, k9, h0, hR⟩ := Hz.out.val
                            obtain ⟨p1, p2, p3, p4, p5, p6, p7, p8, rfl, rfl, rfl, rfl⟩ := rcl_shape hR
                            obtain ⟨x0, x1, x2, x3, x4, x5, x6⟩ := P7.of h0
                            have hfz : ∀ i, wz0.frozen? ⟨w.heap.size, i, none⟩ = false := fun i => Lib.frozen_of_heap h0 _
                            have hgx : w.heap.size < wz0.heap.size := lt_of_heap h0
                            have hR' := Lib.hid hR
                            have E0 := Lib.hid h0
                            clear hR h0
                            go_wp2_with fail
                            refine (refGive_any _ _ _ _ _ _ _ _ _ _ _ _ _ _ _ wz0).mono ?_
                            rintro e wg ⟨rfl, hbg⟩
                            have Kg := Lib.hid (Kz.out.below hbg)
                            clear x0 x1 x2 x3 x4 x5 x6 hfz hgx
                            obtain ⟨y0, y1, y2, y3, y4, y5, y6⟩ := P7.of Kg.out.Z
                            have hfz2 : ∀ i, wg.frozen? ⟨w.heap.size + 2, i, none⟩ = false := fun i => Lib.frozen_of_heap Kg.out.Z _
                            have hzz := lt_of_heap Kg.out.Z
                            go_wp2
                            obtain ⟨q1, q2⟩ := set7z Kg.out.Z (.int .i64 (({ c with base := (applyP c.base m.e.o).1, rev := c.rev + 1, sent := S1, held := c.held, now := Dx } : Cl)).rev) (.slice p1 (({ c with base := (applyP c.base m.e.o).1, rev := c.rev + 1, sent := S1, held := c.held, now := Dx } : Cl)).base.length p2) (.slice p1 (({ c with base := (applyP c.base m.e.o).1, rev := c.rev + 1, sent := S1, held := c.held, now := Dx } : Cl)).base.length p2) (.int .i64 (({ c with base := (applyP c.base m.e.o).1, rev := c.rev + 1, sent := S1, held := c.held, now := Dx } : Cl)).seq) (.slice none 0 0) (.slice none 0 0) (.bool (({ c with base := (applyP c.base m.e.o).1, rev := c.rev + 1, sent := S1, held := c.held, now := Dx } : Cl)).joined)
                            generalize hwz : (((((((wg.setCell ⟨w.heap.size + 2, 0, none⟩ _).setCell ⟨w.heap.size + 2, 1, none⟩ _).setCell ⟨w.heap.size + 2, 2, none⟩ _).setCell ⟨w.heap.size + 2, 3, none⟩ _).setCell ⟨w.heap.size + 2, 4, none⟩ _).setCell ⟨w.heap.size + 2, 5, none⟩ _).setCell ⟨w.heap.size + 2, 6, none⟩ _) = wz at *
                            obtain ⟨z0, z1, z2, z3, z4, z5, z6⟩ := P7.of q1
                            exact bodyPost_ret (v := .tuple #[.agg #[.int .i64 (({ c with base := (applyP c.base m.e.o).1, rev := c.rev + 1, sent := S1, held := c.held, now := Dx } : Cl)).rev, .slice p1 (({ c with base := (applyP c.base m.e.o).1, rev := c.rev + 1, sent := S1, held := c.held, now := Dx } : Cl)).base.length p2, .slice p1 (({ c with base := (applyP c.base m.e.o).1, rev := c.rev + 1, sent := S1, held := c.held, now := Dx } : Cl)).base.length p2, .int .i64 (({ c with base := (applyP c.base m.e.o).1, rev := c.rev + 1, sent := S1, held := c.held, now := Dx } : Cl)).seq, .slice none 0 0, .slice none 0 0, .bool (({ c with base := (applyP c.base m.e.o).1, rev := c.rev + 1, sent := S1, held := c.held, now := Dx } : Cl)).joined], .bool false, .int .i64 0]) (by simp [results, Try.results71, go_sem, z0, z1, z2, z3, z4, z5, z6]) rfl ⟨_, rfl, (by rw [← hR1.out]; exact RCl.to (RCl.give (RCl.to hR'.out (Kp.below hbg))) (fun i hi hl => ⟨trivial, q2.same i hl hi.2.2⟩)), Kg.out.B.trans (q2.bel.mono (by omega))⟩
                      · have e0 := Lib.hid (q2.out rfl)
                        have e2 := hX.out
                        rw [e0.out, if_neg (by simp)] at e2
                        have hR1 := Lib.hid e2
                        clear q0 q1 q2 e0 e2 hX k0 k1
                        obtain ⟨b9, n9, s9, k9, h0, hR⟩ := Hr.out.val
                        obtain ⟨p1, p2, p3, p4, p5, p6, p7, p8, rfl, rfl, rfl, rfl⟩ := rcl_shape hR
                        obtain ⟨x0, x1, x2, x3, x4, x5, x6⟩ := P7.of h0
                        have hfz : ∀ i, wr.frozen? ⟨w.heap.size, i, none⟩ = false := fun i => Lib.frozen_of_heap h0 _
                        have hgx : w.heap.size < wr.heap.size := lt_of_heap h0
                        have hR' := Lib.hid hR
                        have E0 := Lib.hid h0
                        clear hR h0
                        obtain ⟨y0, y1, y2, y3, y4, y5, y6⟩ := P7.of Kr.out.Z
                        have hfz2 : ∀ i, wr.frozen? ⟨w.heap.size + 2, i, none⟩ = false := fun i => Lib.frozen_of_heap Kr.out.Z _
                        have hzz := lt_of_heap Kr.out.Z
                        go_wp2
                        obtain ⟨q1, q2⟩ := set7z Kr.out.Z (.int .i64 (({ c with base := (applyP c.base m.e.o).1, rev := c.rev + 1, sent := S1, held := c.held, now := Dn } : Cl)).rev) (.slice p1 (({ c with base := (applyP c.base m.e.o).1, rev := c.rev + 1, sent := S1, held := c.held, now := Dn } : Cl)).base.length p2) (.slice p3 (({ c with base := (applyP c.base m.e.o).1, rev := c.rev + 1, sent := S1, held := c.held, now := Dn } : Cl)).now.length p4) (.int .i64 (({ c with base := (applyP c.base m.e.o).1, rev := c.rev + 1, sent := S1, held := c.held, now := Dn } : Cl)).seq) (.slice p5 (({ c with base := (applyP c.base m.e.o).1, rev := c.rev + 1, sent := S1, held := c.held, now := Dn } : Cl)).sent.length p6) (.slice p7 (({ c with base := (applyP c.base m.e.o).1, rev := c.rev + 1, sent := S1, held := c.held, now := Dn } : Cl)).held.length p8) (.bool (({ c with base := (applyP c.base m.e.o).1, rev := c.rev + 1, sent := S1, held := c.held, now := Dn } : Cl)).joined)
                        generalize hwz : (((((((wr.setCell ⟨w.heap.size + 2, 0, none⟩ _).setCell ⟨w.heap.size + 2, 1, none⟩ _).setCell ⟨w.heap.size + 2, 2, none⟩ _).setCell ⟨w.heap.size + 2, 3, none⟩ _).setCell ⟨w.heap.size + 2, 4, none⟩ _).setCell ⟨w.heap.size + 2, 5, none⟩ _).setCell ⟨w.heap.size + 2, 6, none⟩ _) = wz at *
                        obtain ⟨z0, z1, z2, z3, z4, z5, z6⟩ := P7.of q1
                        exact bodyPost_ret (v := .tuple #[.agg #[.int .i64 (({ c with base := (applyP c.base m.e.o).1, rev := c.rev + 1, sent := S1, held := c.held, now := Dn } : Cl)).rev, .slice p1 (({ c with base := (applyP c.base m.e.o).1, rev := c.rev + 1, sent := S1, held := c.held, now := Dn } : Cl)).base.length p2, .slice p3 (({ c with base := (applyP c.base m.e.o).1, rev := c.rev + 1, sent := S1, held := c.held, now := Dn } : Cl)).now.length p4, .int .i64 (({ c with base := (applyP c.base m.e.o).1, rev := c.rev + 1, sent := S1, held := c.held, now := Dn } : Cl)).seq, .slice p5 (({ c with base := (applyP c.base m.e.o).1, rev := c.rev + 1, sent := S1, held := c.held, now := Dn } : Cl)).sent.length p6, .slice p7 (({ c with base := (applyP c.base m.e.o).1, rev := c.rev + 1, sent := S1, held := c.held, now := Dn } : Cl)).held.length p8, .bool (({ c with base := (applyP c.base m.e.o).1, rev := c.rev + 1, sent := S1, held := c.held, now := Dn } : Cl)).joined], .bool false, .int .i64 0]) (by simp [results, Try.results71, go_sem, z0, z1, z2, z3, z4, z5, z6]) rfl ⟨_, rfl, (by rw [← hR1.out]; exact RCl.to hR'.out (fun i hi hl => ⟨trivial, q2.same i hl hi.2.2⟩)), Kr.out.B.trans (q2.bel.mono (by omega))⟩
                  · have t2 := lpos_true hh
                    obtain ⟨⟨O2, T1, e2⟩, hT2⟩ : ∃ q, turnP O1 c.held = q := ⟨_, rfl⟩
                    have C3 := Lib.hid (refTurned_any _ _ _ _ O1 c.held w10 O10.out EH.out)
                    rw [hT2] at C3
                    go_wp2_with fail
                    refine C3.out.mono ?_
                    rintro e w11 ⟨r11, s11, rfl, hr11, hs11, hb11⟩
                    dsimp only at *
                    obtain ⟨oa11, oc11, rfl, _⟩ := RdS.len hr11
                    obtain ⟨sa11, sc11, rfl, _⟩ := RdS.len hs11
                    have H11 := Lib.hid (H10.out.below hb11)
                    have K11 := Lib.hid (K10.out.below hb11)
                    have S11 : Hid (ROp (fun k => k ≠ w.heap.size ∧ k ≠ w.heap.size + 1 ∧ k ≠ w.heap.size + 2) w11 (.slice sa11 T1.length sc11) T1) := Lib.hid (ROp.to hs11 (fun i hi hl => ⟨H10.out.2.1 i hi, rfl⟩))
                    clear x0 x1 x2 x3 x4 x5 x6 hfz hgx hR' E0 hr11 hs11 hb11 C3 EH H10 K10 O10
                    obtain ⟨b9, n9, s9, k9, h0, hR⟩ := H11.out.val
                    obtain ⟨m1, m2, m3, m4, m5, m6, m7, m8, rfl, rfl, rfl, rfl⟩ := rcl_shape hR
                    obtain ⟨x0, x1, x2, x3, x4, x5, x6⟩ := P7.of h0
                    have hfz : ∀ i, w11.frozen? ⟨w.heap.size, i, none⟩ = false := fun i => Lib.frozen_of_heap h0 _
                    have hgx : w.heap.size < w11.heap.size := lt_of_heap h0
                    have hR' := Lib.hid hR
                    have E0 := Lib.hid h0
                    clear hR h0
                    have S1 : Stays w.heap.size w11 (w11.setCell ⟨w.heap.size, 5, none⟩ (.slice sa11 T1.length sc11)) := Stays.set
                    have H12 := Lib.hid ((H11.out).set5 (S11.out))
                    have K12 := Lib.hid (K11.out.stays nF S1)
                    go_upto_region 36 with fail
                    refine name_world ?_
                    intro w12 hWw12
                    rw [hWw12] at H12 K12
                    clear hWw12 S1 x0 x1 x2 x3 x4 x5 x6 hfz hgx E0 hR'
                    clear H11 K11 S11
                    have hT3 : turnP (turnP m.e.o c.sent).1 c.held = (O2, T1, e2) := by rw [hT]; exact hT2
                    by_cases h2 : e2 = 0
                    · subst h2
                      have hsh2 : Hid (S1 = [] → T1 = []) := Lib.hid (fun h => absurd h hS1)
                      have hX : Hid ((if (ownsP (applyP c.base m.e.o).1 (S1) (T1)).2 ≠ 0 then giveC ({ c with base := (applyP c.base m.e.o).1, rev := c.rev + 1 } : Cl) else ({ c with base := (applyP c.base m.e.o).1, rev := c.rev + 1, sent := S1, held := T1, now := (ownsP (applyP c.base m.e.o).1 (S1) (T1)).1 } : Cl)) = R1) := Lib.hid (by
                        have hq := ho1.out
                        rw [other_some (s := S1) (k := T1) he'.out (by rw [t2_2 hs hTe hh (by rw [hT3]), hT3, hT]), owns2_eq hsh2.out] at hq
                        exact hq)
                      clear hs hh hT hT2 hT3 hTe hS1
                      go_upto_region 38 with fail
                      clear t1 t2
                      obtain ⟨b9, n9, s9, k9, h0, hR⟩ := H12.out.val
                      obtain ⟨m1, m2, m3, m4, m5, m6, m7, m8, rfl, rfl, rfl, rfl⟩ := rcl_shape hR
                      obtain ⟨x0, x1, x2, x3, x4, x5, x6⟩ := P7.of h0
                      have hfz : ∀ i, w12.frozen? ⟨w.heap.size, i, none⟩ = false := fun i => Lib.frozen_of_heap h0 _
                      have hgx : w.heap.size < w12.heap.size := lt_of_heap h0
                      have hR' := Lib.hid hR
                      have E0 := Lib.hid h0
                      clear hR h0
                      have E1 := Lib.hid (rcl_base hR'.out)
                      have S1 : Stays w.heap.size w12 (w12.setCell ⟨w.heap.size, 2, none⟩ (.slice m1 ({ c with base := (applyP c.base m.e.o).1, rev := c.rev + 1, sent := S1, held := T1 } : Cl).base.length m2)) := Stays.set
                      have Hl := Lib.hid ((H12.out).set2 (E1.out))
                      have Kl := Lib.hid (K12.out.stays nF S1)
                      go_upto_region 39 with fail
                      refine name_world ?_
                      intro wl hWwl
                      rw [hWwl] at Hl Kl
                      clear hWwl S1 x0 x1 x2 x3 x4 x5 x6 hfz hgx E0 hR'
                      clear E1
                      obtain ⟨b9, n9, s9, k9, h0, hR⟩ := Hl.out.val
                      obtain ⟨m1, m2, m3, m4, m5, m6, m7, m8, rfl, rfl, rfl, rfl⟩ := rcl_shape hR
                      obtain ⟨x0, x1, x2, x3, x4, x5, x6⟩ := P7.of h0
                      have hfz : ∀ i, wl.frozen? ⟨w.heap.size, i, none⟩ = false := fun i => Lib.frozen_of_heap h0 _
                      have hgx : w.heap.size < wl.heap.size := lt_of_heap h0
                      have hR' := Lib.hid hR
                      have E0 := Lib.hid h0
                      clear hR h0
                      have ES := Lib.hid (rcl_sent hR'.out)
                      have ET := Lib.hid (rcl_held hR'.out)
                      have hbl := bal (brf wl) (.cells #[.slice m5 (S1).length m6, .slice m7 (T1).length m8] 53)
                      have HL : Hid (CAt 87 (fun k => k ≠ w.heap.size ∧ k ≠ w.heap.size + 1 ∧ k ≠ w.heap.size + 2) (wl.alloc (.cells #[.slice m5 (S1).length m6, .slice m7 (T1).length m8] 53)) w.heap.size ({ c with base := (applyP c.base m.e.o).1, rev := c.rev + 1, sent := S1, held := T1, now := (applyP c.base m.e.o).1 } : Cl)) := Lib.hid (Hl.out.below hbl)
                      have KL := Lib.hid (Kl.out.below hbl)
                      have hAR := Lib.hid (heap_new wl (.cells #[.slice m5 (S1).length m6, .slice m7 (T1).length m8] 53))
                      have hES : Hid (ROp (fun k => k ≠ w.heap.size ∧ k ≠ w.heap.size + 1 ∧ k ≠ w.heap.size + 2) (wl.alloc (.cells #[.slice m5 (S1).length m6, .slice m7 (T1).length m8] 53)) (.slice m5 (S1).length m6) (S1)) := Lib.hid (ROp.to ES.out (Kp.below hbl))
                      have hET : Hid (ROp (fun k => k ≠ w.heap.size ∧ k ≠ w.heap.size + 1 ∧ k ≠ w.heap.size + 2) (wl.alloc (.cells #[.slice m5 (S1).length m6, .slice m7 (T1).length m8] 53)) (.slice m7 (T1).length m8) (T1)) := Lib.hid (ROp.to ET.out (Kp.below hbl))
                      have hga := lt_of_heap Kl.out.Z
                      clear hbl ES ET
                      go_wp2
                      clear x0 x1 x2 x3 x4 x5 x6 hfz hgx hR' E0
                      go_loopw [174] (fun i wr => ∃ k : Nat, k ≤ 2 ∧ i = .int .i64 k ∧ ∃ Dn, CAt 87 (fun k => k ≠ w.heap.size ∧ k ≠ w.heap.size + 1 ∧ k ≠ w.heap.size + 2) wr w.heap.size ({ c with base := (applyP c.base m.e.o).1, rev := c.rev + 1, sent := S1, held := T1, now := Dn } : Cl) ∧ HrS 87 89 (fun k => k ≠ w.heap.size ∧ k ≠ w.heap.size + 1 ∧ k ≠ w.heap.size + 2) w wr (.slice oa m.e.o.length oc) m ∧ ROp (fun k => k ≠ w.heap.size ∧ k ≠ w.heap.size + 1 ∧ k ≠ w.heap.size + 2) wr (.slice m5 (S1).length m6) (S1) ∧ ROp (fun k => k ≠ w.heap.size ∧ k ≠ w.heap.size + 1 ∧ k ≠ w.heap.size + 2) wr (.slice m7 (T1).length m8) (T1) ∧ Hid (k = 0 → Dn = (applyP c.base m.e.o).1) ∧ Hid (k = 1 → ownsP (applyP c.base m.e.o).1 (S1) [] = (Dn, 0)) ∧ Hid (k = 2 → ownsP (applyP c.base m.e.o).1 (S1) (T1) = (Dn, 0)) ∧ wr.heap[wl.heap.size]? = some (.cells #[.slice m5 (S1).length m6, .slice m7 (T1).length m8] 53 (0, 0))) (fun i _ => 2 - (intOf i).toNat)
                      case atStart => exact ⟨0, by omega, rfl, (applyP c.base m.e.o).1, HL.out, KL.out, hES.out, hET.out, Lib.hid (fun _ => rfl), Lib.hid (fun h => by omega), Lib.hid (fun h => by omega), hAR.out⟩
                      case round =>
                        obtain ⟨k, hk, rfl, Dn, hHr, hKr, hSr, hTr, q0, q1, q2, harr⟩ := hrel
                        have Hr := Lib.hid hHr
                        have Kr := Lib.hid hKr
                        have Sr := Lib.hid hSr
                        have Tr := Lib.hid hTr
                        have k0 := cell_of harr 0 (.slice m5 (S1).length m6) rfl
                        have k1 := cell_of harr 1 (.slice m7 (T1).length m8) rfl
                        have hal := lt_of_heap harr
                        have harr' := Lib.hid harr
                        clear HL KL hAR hES hET hHr hKr hSr hTr harr
                        rcases (by omega : k = 0 ∨ k = 1 ∨ k = 2) with rfl | rfl | rfl
                        · have e0 := Lib.hid (q0.out rfl)
                          clear q0 q1 q2
                          by_cases hx : (S1) = []
                          · have t1 := lpos_false hx
                            have hn1 : Hid (ownsP (applyP c.base m.e.o).1 (S1) ([]) = (Dn, 0)) := Lib.hid (by rw [hx, e0.out, owns_0])
                            clear hx e0
                            go_wp2
                            go_roundw
                            case rel => exact ⟨1, by omega, rfl, Dn, Hr.out, Kr.out, Sr.out, Tr.out, Lib.hid (fun h => by omega), Lib.hid (fun _ => hn1.out), Lib.hid (fun h => by omega), harr'.out⟩
                            case measure => simp [intOf]
                          · have t1 := lpos_true hx
                            obtain ⟨b9, n9, s9, k9, h0, hR⟩ := Hr.out.val
                            obtain ⟨p1, p2, p3, p4, p5, p6, p7, p8, rfl, rfl, rfl, rfl⟩ := rcl_shape hR
                            obtain ⟨x0, x1, x2, x3, x4, x5, x6⟩ := P7.of h0
                            have hfz : ∀ i, wr.frozen? ⟨w.heap.size, i, none⟩ = false := fun i => Lib.frozen_of_heap h0 _
                            have hgx : w.heap.size < wr.heap.size := lt_of_heap h0
                            have hR' := Lib.hid hR
                            have E0 := Lib.hid h0
                            clear hR h0
                            have EN := Lib.hid (rcl_now hR'.out)
                            have C := Lib.hid (refApplied_any _ _ _ _ Dn (S1) wr EN.out Sr.out)
                            obtain ⟨⟨Dx, Ex⟩, hD⟩ : ∃ q, applyP Dn (S1) = q := ⟨_, rfl⟩
                            rw [hD] at C
                            have hA1 : Hid (Ex = 0 → ownsP (applyP c.base m.e.o).1 (S1) [] = (Dx, 0)) := Lib.hid (fun h => by have hd := hD; rw [e0.out] at hd; rw [owns_s1 hx (by rw [hd]; exact h), hd])
                            have hA2 : Hid (Ex ≠ 0 → ownsP (applyP c.base m.e.o).1 (S1) (T1) = ([], Ex)) := Lib.hid (fun h => by have hd := hD; rw [e0.out] at hd; rw [owns_e1 hx (by rw [hd]; exact h), hd])
                            clear hD e0 EN
                            go_wp2_with fail
                            refine C.out.mono ?_
                            rintro e wy ⟨ry, rfl, hry, hby⟩
                            dsimp only at *
                            obtain ⟨ya, yc, rfl, _⟩ := RdS.len hry
                            have Hy := Lib.hid (Hr.out.below hby)
                            have Ky := Lib.hid (Kr.out.below hby)
                            have Sy := Lib.hid (ROp.to Sr.out (Kp.below hby))
                            have Ty := Lib.hid (ROp.to Tr.out (Kp.below hby))
                            have Ay : Hid (RItems (fun k => k ≠ w.heap.size ∧ k ≠ w.heap.size + 1 ∧ k ≠ w.heap.size + 2) wy (.slice ya Dx.length yc) Dx) := Lib.hid (RItems.to hry (fun i hi hl => ⟨Hr.out.2.1 i hi, rfl⟩))
                            have haly := Lib.hid ((hby.block _ hal).trans harr'.out)
                            clear x0 x1 x2 x3 x4 x5 x6 hfz hgx hR' E0 C hry hby Hr Kr Sr Tr harr'
                            obtain ⟨b9, n9, s9, k9, h0, hR⟩ := Hy.out.val
                            obtain ⟨p1, p2, p3, p4, p5, p6, p7, p8, rfl, rfl, rfl, rfl⟩ := rcl_shape hR
                            obtain ⟨x0, x1, x2, x3, x4, x5, x6⟩ := P7.of h0
                            have hfz : ∀ i, wy.frozen? ⟨w.heap.size, i, none⟩ = false := fun i => Lib.frozen_of_heap h0 _
                            have hgx : w.heap.size < wy.heap.size := lt_of_heap h0
                            have hR' := Lib.hid hR
                            have E0 := Lib.hid h0
                            clear hR h0
                            have S1 : Stays w.heap.size wy (wy.setCell ⟨w.heap.size, 2, none⟩ (.slice ya Dx.length yc)) := Stays.set
                            have Hz := Lib.hid ((Hy.out).set2 (Ay.out))
                            have Kz := Lib.hid (Ky.out.stays nF S1)
                            have Sz := Lib.hid (ROp.to Sy.out (kp_stays nF S1))
                            have Tz := Lib.hid (ROp.to Ty.out (kp_stays nF S1))
                            have halz := Lib.hid ((S1.same _ (lt_of_heap haly.out) (by have := hga; omega)).trans haly.out)
                            go_upto_region 44 with fail
                            refine name_world ?_
                            intro wz0 hWwz0
                            rw [hWwz0] at Hz Kz Sz Tz halz
                            clear hWwz0 S1 x0 x1 x2 x3 x4 x5 x6 hfz hgx E0 hR'
                            clear Hy Ky Sy Ty Ay haly
                            by_cases hee : Ex = 0
                            · subst hee
                              have hn1 : Hid (ownsP (applyP c.base m.e.o).1 (S1) ([]) = (Dx, 0)) := Lib.hid (hA1.out rfl)
                              clear hA1 hA2
                              go_wp2
                              go_roundw
                              case rel => exact ⟨1, by omega, rfl, Dx, Hz.out, Kz.out, Sz.out, Tz.out, Lib.hid (fun h => by omega), Lib.hid (fun _ => hn1.out), Lib.hid (fun h => by omega), halz.out⟩
                              case measure => simp [intOf]
                            · have hee2 : (Ex != 0) = true := by simpa using hee
                              have e2 := hX.out
                              rw [hA2.out hee, if_pos hee] at e2
                              have hR1 : Hid (giveC ({ c with base := (applyP c.base m.e.o).1, rev := c.rev + 1, sent := S1, held := T1, now := Dx } : Cl) = R1) := Lib.hid e2
                              clear e2 hX hA1 hA2 hee
                              obtain ⟨b9, n9, s9, k9, h0, hR⟩ := Hz.out.val
                              obtain ⟨p1, p2, p3, p4, p5, p6, p7, p8, rfl, rfl, rfl, rfl⟩ := rcl_shape hR
                              obtain ⟨x0, x1, x2, x3, x4, x5, x6⟩ := P7.of h0
                              have hfz : ∀ i, wz0.frozen? ⟨w.heap.size, i, none⟩ = false := fun i => Lib.frozen_of_heap h0 _
                              have hgx : w.heap.size < wz0.heap.size := lt_of_heap h0
                              have hR' := Lib.hid hR
                              have E0 := Lib.hid h0
                              clear hR h0
                              go_wp2_with fail
                              refine (refGive_any _ _ _ _ _ _ _ _ _ _ _ _ _ _ _ wz0).mono ?_
                              rintro e wg ⟨rfl, hbg⟩
                              have Kg := Lib.hid (Kz.out.below hbg)
                              clear x0 x1 x2 x3 x4 x5 x6 hfz hgx
                              obtain ⟨y0, y1, y2, y3, y4, y5, y6⟩ := P7.of Kg.out.Z
                              have hfz2 : ∀ i, wg.frozen? ⟨w.heap.size + 2, i, none⟩ = false := fun i => Lib.frozen_of_heap Kg.out.Z _
                              have hzz := lt_of_heap Kg.out.Z
                              go_wp2
                              obtain ⟨q1, q2⟩ := set7z Kg.out.Z (.int .i64 (({ c with base := (applyP c.base m.e.o).1, rev := c.rev + 1, sent := S1, held := T1, now := Dx } : Cl)).rev) (.slice p1 (({ c with base := (applyP c.base m.e.o).1, rev := c.rev + 1, sent := S1, held := T1, now := Dx } : Cl)).base.length p2) (.slice p1 (({ c with base := (applyP c.base m.e.o).1, rev := c.rev + 1, sent := S1, held := T1, now := Dx } : Cl)).base.length p2) (.int .i64 (({ c with base := (applyP c.base m.e.o).1, rev := c.rev + 1, sent := S1, held := T1, now := Dx } : Cl)).seq) (.slice none 0 0) (.slice none 0 0) (.bool (({ c with base := (applyP c.base m.e.o).1, rev := c.rev + 1, sent := S1, held := T1, now := Dx } : Cl)).joined)
                              generalize hwz : (((((((wg.setCell ⟨w.heap.size + 2, 0, none⟩ _).setCell ⟨w.heap.size + 2, 1, none⟩ _).setCell ⟨w.heap.size + 2, 2, none⟩ _).setCell ⟨w.heap.size + 2, 3, none⟩ _).setCell ⟨w.heap.size + 2, 4, none⟩ _).setCell ⟨w.heap.size + 2, 5, none⟩ _).setCell ⟨w.heap.size + 2, 6, none⟩ _) = wz at *
                              obtain ⟨z0, z1, z2, z3, z4, z5, z6⟩ := P7.of q1
                              exact bodyPost_ret (v := .tuple #[.agg #[.int .i64 (({ c with base := (applyP c.base m.e.o).1, rev := c.rev + 1, sent := S1, held := T1, now := Dx } : Cl)).rev, .slice p1 (({ c with base := (applyP c.base m.e.o).1, rev := c.rev + 1, sent := S1, held := T1, now := Dx } : Cl)).base.length p2, .slice p1 (({ c with base := (applyP c.base m.e.o).1, rev := c.rev + 1, sent := S1, held := T1, now := Dx } : Cl)).base.length p2, .int .i64 (({ c with base := (applyP c.base m.e.o).1, rev := c.rev + 1, sent := S1, held := T1, now := Dx } : Cl)).seq, .slice none 0 0, .slice none 0 0, .bool (({ c with base := (applyP c.base m.e.o).1, rev := c.rev + 1, sent := S1, held := T1, now := Dx } : Cl)).joined], .bool false, .int .i64 0]) (by simp [results, Try.results71, go_sem, z0, z1, z2, z3, z4, z5, z6]) rfl ⟨_, rfl, (by rw [← hR1.out]; exact RCl.to (RCl.give (RCl.to hR'.out (Kp.below hbg))) (fun i hi hl => ⟨trivial, q2.same i hl hi.2.2⟩)), Kg.out.B.trans (q2.bel.mono (by omega))⟩
                        · have e0 := Lib.hid (q1.out rfl)
                          clear q0 q1 q2
                          by_cases hx : (T1) = []
                          · have t1 := lpos_false hx
                            have hn1 : Hid (ownsP (applyP c.base m.e.o).1 (S1) (T1) = (Dn, 0)) := Lib.hid (by rw [hx]; exact e0.out)
                            clear hx e0
                            go_wp2
                            go_roundw
                            case rel => exact ⟨2, by omega, rfl, Dn, Hr.out, Kr.out, Sr.out, Tr.out, Lib.hid (fun h => by omega), Lib.hid (fun h => by omega), Lib.hid (fun _ => hn1.out), harr'.out⟩
                            case measure => simp [intOf]
                          · have t1 := lpos_true hx
                            obtain ⟨b9, n9, s9, k9, h0, hR⟩ := Hr.out.val
                            obtain ⟨p1, p2, p3, p4, p5, p6, p7, p8, rfl, rfl, rfl, rfl⟩ := rcl_shape hR
                            obtain ⟨x0, x1, x2, x3, x4, x5, x6⟩ := P7.of h0
                            have hfz : ∀ i, wr.frozen? ⟨w.heap.size, i, none⟩ = false := fun i => Lib.frozen_of_heap h0 _
                            have hgx : w.heap.size < wr.heap.size := lt_of_heap h0
                            have hR' := Lib.hid hR
                            have E0 := Lib.hid h0
                            clear hR h0
                            have EN := Lib.hid (rcl_now hR'.out)
                            have C := Lib.hid (refApplied_any _ _ _ _ Dn (T1) wr EN.out Tr.out)
                            obtain ⟨⟨Dx, Ex⟩, hD⟩ : ∃ q, applyP Dn (T1) = q := ⟨_, rfl⟩
                            rw [hD] at C
                            have hA0 := owns_s2 (fun h => hx (hsh2.out h)) hx e0.out
                            have hA1 : Hid (Ex = 0 → ownsP (applyP c.base m.e.o).1 (S1) (T1) = (Dx, 0)) := Lib.hid (fun h => by rw [hA0, hD, h])
                            have hA2 : Hid (Ex ≠ 0 → ownsP (applyP c.base m.e.o).1 (S1) (T1) = (Dx, Ex)) := Lib.hid (fun h => by rw [hA0, hD])
                            clear hA0
                            clear hD e0 EN
                            go_wp2_with fail
                            refine C.out.mono ?_
                            rintro e wy ⟨ry, rfl, hry, hby⟩
                            dsimp only at *
                            obtain ⟨ya, yc, rfl, _⟩ := RdS.len hry
                            have Hy := Lib.hid (Hr.out.below hby)
                            have Ky := Lib.hid (Kr.out.below hby)
                            have Sy := Lib.hid (ROp.to Sr.out (Kp.below hby))
                            have Ty := Lib.hid (ROp.to Tr.out (Kp.below hby))
                            have Ay : Hid (RItems (fun k => k ≠ w.heap.size ∧ k ≠ w.heap.size + 1 ∧ k ≠ w.heap.size + 2) wy (.slice ya Dx.length yc) Dx) := Lib.hid (RItems.to hry (fun i hi hl => ⟨Hr.out.2.1 i hi, rfl⟩))
                            have haly := Lib.hid ((hby.block _ hal).trans harr'.out)
                            clear x0 x1 x2 x3 x4 x5 x6 hfz hgx hR' E0 C hry hby Hr Kr Sr Tr harr'
                            obtain ⟨b9, n9, s9, k9, h0, hR⟩ := Hy.out.val
                            obtain ⟨p1, p2, p3, p4, p5, p6, p7, p8, rfl, rfl, rfl, rfl⟩ := rcl_shape hR
                            obtain ⟨x0, x1, x2, x3, x4, x5, x6⟩ := P7.of h0
                            have hfz : ∀ i, wy.frozen? ⟨w.heap.size, i, none⟩ = false := fun i => Lib.frozen_of_heap h0 _
                            have hgx : w.heap.size < wy.heap.size := lt_of_heap h0
                            have hR' := Lib.hid hR
                            have E0 := Lib.hid h0
                            clear hR h0
                            have S1 : Stays w.heap.size wy (wy.setCell ⟨w.heap.size, 2, none⟩ (.slice ya Dx.length yc)) := Stays.set
                            have Hz := Lib.hid ((Hy.out).set2 (Ay.out))
                            have Kz := Lib.hid (Ky.out.stays nF S1)
                            have Sz := Lib.hid (ROp.to Sy.out (kp_stays nF S1))
                            have Tz := Lib.hid (ROp.to Ty.out (kp_stays nF S1))
                            have halz := Lib.hid ((S1.same _ (lt_of_heap haly.out) (by have := hga; omega)).trans haly.out)
                            go_upto_region 44 with fail
                            refine name_world ?_
                            intro wz0 hWwz0
                            rw [hWwz0] at Hz Kz Sz Tz halz
                            clear hWwz0 S1 x0 x1 x2 x3 x4 x5 x6 hfz hgx E0 hR'
                            clear Hy Ky Sy Ty Ay haly
                            by_cases hee : Ex = 0
                            · subst hee
                              have hn1 : Hid (ownsP (applyP c.base m.e.o).1 (S1) (T1) = (Dx, 0)) := Lib.hid (hA1.out rfl)
                              clear hA1 hA2
                              go_wp2
                              go_roundw
                              case rel => exact ⟨2, by omega, rfl, Dx, Hz.out, Kz.out, Sz.out, Tz.out, Lib.hid (fun h => by omega), Lib.hid (fun h => by omega), Lib.hid (fun _ => hn1.out), halz.out⟩
                              case measure => simp [intOf]
                            · have hee2 : (Ex != 0) = true := by simpa using hee
                              have e2 := hX.out
                              rw [hA2.out hee, if_pos hee] at e2
                              have hR1 : Hid (giveC ({ c with base := (applyP c.base m.e.o).1, rev := c.rev + 1, sent := S1, held := T1, now := Dx } : Cl) = R1) := Lib.hid e2
                              clear e2 hX hA1 hA2 hee
                              obtain ⟨b9, n9, s9, k9, h0, hR⟩ := Hz.out.val
                              obtain ⟨p1, p2, p3, p4, p5, p6, p7, p8, rfl, rfl, rfl, rfl⟩ := rcl_shape hR
                              obtain ⟨x0, x1, x2, x3, x4, x5, x6⟩ := P7.of h0
                              have hfz : ∀ i, wz0.frozen? ⟨w.heap.size, i, none⟩ = false := fun i => Lib.frozen_of_heap h0 _
                              have hgx : w.heap.size < wz0.heap.size := lt_of_heap h0
                              have hR' := Lib.hid hR
                              have E0 := Lib.hid h0
                              clear hR h0
                              go_wp2_with fail
                              refine (refGive_any _ _ _ _ _ _ _ _ _ _ _ _ _ _ _ wz0).mono ?_
                              rintro e wg ⟨rfl, hbg⟩
                              have Kg := Lib.hid (Kz.out.below hbg)
                              clear x0 x1 x2 x3 x4 x5 x6 hfz hgx
                              obtain ⟨y0, y1, y2, y3, y4, y5, y6⟩ := P7.of Kg.out.Z
                              have hfz2 : ∀ i, wg.frozen? ⟨w.heap.size + 2, i, none⟩ = false := fun i => Lib.frozen_of_heap Kg.out.Z _
                              have hzz := lt_of_heap Kg.out.Z
                              go_wp2
                              obtain ⟨q1, q2⟩ := set7z Kg.out.Z (.int .i64 (({ c with base := (applyP c.base m.e.o).1, rev := c.rev + 1, sent := S1, held := T1, now := Dx } : Cl)).rev) (.slice p1 (({ c with base := (applyP c.base m.e.o).1, rev := c.rev + 1, sent := S1, held := T1, now := Dx } : Cl)).base.length p2) (.slice p1 (({ c with base := (applyP c.base m.e.o).1, rev := c.rev + 1, sent := S1, held := T1, now := Dx } : Cl)).base.length p2) (.int .i64 (({ c with base := (applyP c.base m.e.o).1, rev := c.rev + 1, sent := S1, held := T1, now := Dx } : Cl)).seq) (.slice none 0 0) (.slice none 0 0) (.bool (({ c with base := (applyP c.base m.e.o).1, rev := c.rev + 1, sent := S1, held := T1, now := Dx } : Cl)).joined)
                              generalize hwz : (((((((wg.setCell ⟨w.heap.size + 2, 0, none⟩ _).setCell ⟨w.heap.size + 2, 1, none⟩ _).setCell ⟨w.heap.size + 2, 2, none⟩ _).setCell ⟨w.heap.size + 2, 3, none⟩ _).setCell ⟨w.heap.size + 2, 4, none⟩ _).setCell ⟨w.heap.size + 2, 5, none⟩ _).setCell ⟨w.heap.size + 2, 6, none⟩ _) = wz at *
                              obtain ⟨z0, z1, z2, z3, z4, z5, z6⟩ := P7.of q1
                              exact bodyPost_ret (v := .tuple #[.agg #[.int .i64 (({ c with base := (applyP c.base m.e.o).1, rev := c.rev + 1, sent := S1, held := T1, now := Dx } : Cl)).rev, .slice p1 (({ c with base := (applyP c.base m.e.o).1, rev := c.rev + 1, sent := S1, held := T1, now := Dx } : Cl)).base.length p2, .slice p1 (({ c with base := (applyP c.base m.e.o).1, rev := c.rev + 1, sent := S1, held := T1, now := Dx } : Cl)).base.length p2, .int .i64 (({ c with base := (applyP c.base m.e.o).1, rev := c.rev + 1, sent := S1, held := T1, now := Dx } : Cl)).seq, .slice none 0 0, .slice none 0 0, .bool (({ c with base := (applyP c.base m.e.o).1, rev := c.rev + 1, sent := S1, held := T1, now := Dx } : Cl)).joined], .bool false, .int .i64 0]) (by simp [results, Try.results71, go_sem, z0, z1, z2, z3, z4, z5, z6]) rfl ⟨_, rfl, (by rw [← hR1.out]; exact RCl.to (RCl.give (RCl.to hR'.out (Kp.below hbg))) (fun i hi hl => ⟨trivial, q2.same i hl hi.2.2⟩)), Kg.out.B.trans (q2.bel.mono (by omega))⟩
                        · have e0 := Lib.hid (q2.out rfl)
                          have e2 := hX.out
                          rw [e0.out, if_neg (by simp)] at e2
                          have hR1 := Lib.hid e2
                          clear q0 q1 q2 e0 e2 hX k0 k1
                          obtain ⟨b9, n9, s9, k9, h0, hR⟩ := Hr.out.val
                          obtain ⟨p1, p2, p3, p4, p5, p6, p7, p8, rfl, rfl, rfl, rfl⟩ := rcl_shape hR
                          obtain ⟨x0, x1, x2, x3, x4, x5, x6⟩ := P7.of h0
                          have hfz : ∀ i, wr.frozen? ⟨w.heap.size, i, none⟩ = false := fun i => Lib.frozen_of_heap h0 _
                          have hgx : w.heap.size < wr.heap.size := lt_of_heap h0
                          have hR' := Lib.hid hR
                          have E0 := Lib.hid h0
                          clear hR h0
                          obtain ⟨y0, y1, y2, y3, y4, y5, y6⟩ := P7.of Kr.out.Z
                          have hfz2 : ∀ i, wr.frozen? ⟨w.heap.size + 2, i, none⟩ = false := fun i => Lib.frozen_of_heap Kr.out.Z _
                          have hzz := lt_of_heap Kr.out.Z
                          go_wp2
                          obtain ⟨q1, q2⟩ := set7z Kr.out.Z (.int .i64 (({ c with base := (applyP c.base m.e.o).1, rev := c.rev + 1, sent := S1, held := T1, now := Dn } : Cl)).rev) (.slice p1 (({ c with base := (applyP c.base m.e.o).1, rev := c.rev + 1, sent := S1, held := T1, now := Dn } : Cl)).base.length p2) (.slice p3 (({ c with base := (applyP c.base m.e.o).1, rev := c.rev + 1, sent := S1, held := T1, now := Dn } : Cl)).now.length p4) (.int .i64 (({ c with base := (applyP c.base m.e.o).1, rev := c.rev + 1, sent := S1, held := T1, now := Dn } : Cl)).seq) (.slice p5 (({ c with base := (applyP c.base m.e.o).1, rev := c.rev + 1, sent := S1, held := T1, now := Dn } : Cl)).sent.length p6) (.slice p7 (({ c with base := (applyP c.base m.e.o).1, rev := c.rev + 1, sent := S1, held := T1, now := Dn } : Cl)).held.length p8) (.bool (({ c with base := (applyP c.base m.e.o).1, rev := c.rev + 1, sent := S1, held := T1, now := Dn } : Cl)).joined)
                          generalize hwz : (((((((wr.setCell ⟨w.heap.size + 2, 0, none⟩ _).setCell ⟨w.heap.size + 2, 1, none⟩ _).setCell ⟨w.heap.size + 2, 2, none⟩ _).setCell ⟨w.heap.size + 2, 3, none⟩ _).setCell ⟨w.heap.size + 2, 4, none⟩ _).setCell ⟨w.heap.size + 2, 5, none⟩ _).setCell ⟨w.heap.size + 2, 6, none⟩ _) = wz at *
                          obtain ⟨z0, z1, z2, z3, z4, z5, z6⟩ := P7.of q1
                          exact bodyPost_ret (v := .tuple #[.agg #[.int .i64 (({ c with base := (applyP c.base m.e.o).1, rev := c.rev + 1, sent := S1, held := T1, now := Dn } : Cl)).rev, .slice p1 (({ c with base := (applyP c.base m.e.o).1, rev := c.rev + 1, sent := S1, held := T1, now := Dn } : Cl)).base.length p2, .slice p3 (({ c with base := (applyP c.base m.e.o).1, rev := c.rev + 1, sent := S1, held := T1, now := Dn } : Cl)).now.length p4, .int .i64 (({ c with base := (applyP c.base m.e.o).1, rev := c.rev + 1, sent := S1, held := T1, now := Dn } : Cl)).seq, .slice p5 (({ c with base := (applyP c.base m.e.o).1, rev := c.rev + 1, sent := S1, held := T1, now := Dn } : Cl)).sent.length p6, .slice p7 (({ c with base := (applyP c.base m.e.o).1, rev := c.rev + 1, sent := S1, held := T1, now := Dn } : Cl)).held.length p8, .bool (({ c with base := (applyP c.base m.e.o).1, rev := c.rev + 1, sent := S1, held := T1, now := Dn } : Cl)).joined], .bool false, .int .i64 0]) (by simp [results, Try.results71, go_sem, z0, z1, z2, z3, z4, z5, z6]) rfl ⟨_, rfl, (by rw [← hR1.out]; exact RCl.to hR'.out (fun i hi hl => ⟨trivial, q2.same i hl hi.2.2⟩)), Kr.out.B.trans (q2.bel.mono (by omega))⟩
                    · have h2' : (e2 != 0) = true := by simpa using h2
                      have hR1 : Hid (giveC ({ c with base := (applyP c.base m.e.o).1, rev := c.rev + 1, sent := S1, held := T1 } : Cl) = R1) := Lib.hid (by
                        have hq := ho1.out
                        rw [otherC_give he'.out (t2_e2 hs hTe hh (by rw [hT3]; exact h2))] at hq
                        exact hq)
                      clear hs hh hT hT2 hT3 hTe hS1 h2
                      obtain ⟨b9, n9, s9, k9, h0, hR⟩ := H12.out.val
                      obtain ⟨m1, m2, m3, m4, m5, m6, m7, m8, rfl, rfl, rfl, rfl⟩ := rcl_shape hR
                      obtain ⟨x0, x1, x2, x3, x4, x5, x6⟩ := P7.of h0
                      have hfz : ∀ i, w12.frozen? ⟨w.heap.size, i, none⟩ = false := fun i => Lib.frozen_of_heap h0 _
                      have hgx : w.heap.size < w12.heap.size := lt_of_heap h0
                      have hR' := Lib.hid hR
                      have E0 := Lib.hid h0
                      clear hR h0
                      go_wp2_with fail
                      refine (refGive_any _ _ _ _ _ _ _ _ _ _ _ _ _ _ _ w12).mono ?_
                      rintro e wg ⟨rfl, hbg⟩
                      have Kg := Lib.hid (K12.out.below hbg)
                      clear x0 x1 x2 x3 x4 x5 x6 hfz hgx
                      obtain ⟨y0, y1, y2, y3, y4, y5, y6⟩ := P7.of Kg.out.Z
                      have hfz2 : ∀ i, wg.frozen? ⟨w.heap.size + 2, i, none⟩ = false := fun i => Lib.frozen_of_heap Kg.out.Z _
                      have hzz := lt_of_heap Kg.out.Z
                      go_wp2
                      obtain ⟨q1, q2⟩ := set7z Kg.out.Z (.int .i64 (({ c with base := (applyP c.base m.e.o).1, rev := c.rev + 1, sent := S1, held := T1 } : Cl)).rev) (.slice m1 (({ c with base := (applyP c.base m.e.o).1, rev := c.rev + 1, sent := S1, held := T1 } : Cl)).base.length m2) (.slice m1 (({ c with base := (applyP c.base m.e.o).1, rev := c.rev + 1, sent := S1, held := T1 } : Cl)).base.length m2) (.int .i64 (({ c with base := (applyP c.base m.e.o).1, rev := c.rev + 1, sent := S1, held := T1 } : Cl)).seq) (.slice none 0 0) (.slice none 0 0) (.bool (({ c with base := (applyP c.base m.e.o).1, rev := c.rev + 1, sent := S1, held := T1 } : Cl)).joined)
                      generalize hwz : (((((((wg.setCell ⟨w.heap.size + 2, 0, none⟩ _).setCell ⟨w.heap.size + 2, 1, none⟩ _).setCell ⟨w.heap.size + 2, 2, none⟩ _).setCell ⟨w.heap.size + 2, 3, none⟩ _).setCell ⟨w.heap.size + 2, 4, none⟩ _).setCell ⟨w.heap.size + 2, 5, none⟩ _).setCell ⟨w.heap.size + 2, 6, none⟩ _) = wz at *
                      obtain ⟨z0, z1, z2, z3, z4, z5, z6⟩ := P7.of q1
                      exact bodyPost_ret (v := .tuple #[.agg #[.int .i64 (({ c with base := (applyP c.base m.e.o).1, rev := c.rev + 1, sent := S1, held := T1 } : Cl)).rev, .slice m1 (({ c with base := (applyP c.base m.e.o).1, rev := c.rev + 1, sent := S1, held := T1 } : Cl)).base.length m2, .slice m1 (({ c with base := (applyP c.base m.e.o).1, rev := c.rev + 1, sent := S1, held := T1 } : Cl)).base.length m2, .int .i64 (({ c with base := (applyP c.base m.e.o).1, rev := c.rev + 1, sent := S1, held := T1 } : Cl)).seq, .slice none 0 0, .slice none 0 0, .bool (({ c with base := (applyP c.base m.e.o).1, rev := c.rev + 1, sent := S1, held := T1 } : Cl)).joined], .bool false, .int .i64 0]) (by simp [results, Try.results71, go_sem, z0, z1, z2, z3, z4, z5, z6]) rfl ⟨_, rfl, (by rw [← hR1.out]; exact RCl.to (RCl.give (RCl.to hR'.out (Kp.below hbg))) (fun i hi hl => ⟨trivial, q2.same i hl hi.2.2⟩)), Kg.out.B.trans (q2.bel.mono (by omega))⟩
                · have h1' : (e1 != 0) = true := by simpa using h1
                  have hR1 : Hid (giveC ({ c with base := (applyP c.base m.e.o).1, rev := c.rev + 1, sent := S1 } : Cl) = R1) := Lib.hid (by
                    have hq := ho1.out
                    rw [otherC_give he'.out (t2_e hs (by rw [hT]; exact h1))] at hq
                    exact hq)
                  clear hs hT h1 O10
                  obtain ⟨b9, n9, s9, k9, h0, hR⟩ := H10.out.val
                  obtain ⟨m1, m2, m3, m4, m5, m6, m7, m8, rfl, rfl, rfl, rfl⟩ := rcl_shape hR
                  obtain ⟨x0, x1, x2, x3, x4, x5, x6⟩ := P7.of h0
                  have hfz : ∀ i, w10.frozen? ⟨w.heap.size, i, none⟩ = false := fun i => Lib.frozen_of_heap h0 _
                  have hgx : w.heap.size < w10.heap.size := lt_of_heap h0
                  have hR' := Lib.hid hR
                  have E0 := Lib.hid h0
                  clear hR h0
                  go_wp2_with fail
                  refine (refGive_any _ _ _ _ _ _ _ _ _ _ _ _ _ _ _ w10).mono ?_
                  rintro e wg ⟨rfl, hbg⟩
                  have Kg := Lib.hid (K10.out.below hbg)
                  clear x0 x1 x2 x3 x4 x5 x6 hfz hgx
                  obtain ⟨y0, y1, y2, y3, y4, y5, y6⟩ := P7.of Kg.out.Z
                  have hfz2 : ∀ i, wg.frozen? ⟨w.heap.size + 2, i, none⟩ = false := fun i => Lib.frozen_of_heap Kg.out.Z _
                  have hzz := lt_of_heap Kg.out.Z
                  go_wp2
                  obtain ⟨q1, q2⟩ := set7z Kg.out.Z (.int .i64 (({ c with base := (applyP c.base m.e.o).1, rev := c.rev + 1, sent := S1 } : Cl)).rev) (.slice m1 (({ c with base := (applyP c.base m.e.o).1, rev := c.rev + 1, sent := S1 } : Cl)).base.length m2) (.slice m1 (({ c with base := (applyP c.base m.e.o).1, rev := c.rev + 1, sent := S1 } : Cl)).base.length m2) (.int .i64 (({ c with base := (applyP c.base m.e.o).1, rev := c.rev + 1, sent := S1 } : Cl)).seq) (.slice none 0 0) (.slice none 0 0) (.bool (({ c with base := (applyP c.base m.e.o).1, rev := c.rev + 1, sent := S1 } : Cl)).joined)
                  generalize hwz : (((((((wg.setCell ⟨w.heap.size + 2, 0, none⟩ _).setCell ⟨w.heap.size + 2, 1, none⟩ _).setCell ⟨w.heap.size + 2, 2, none⟩ _).setCell ⟨w.heap.size + 2, 3, none⟩ _).setCell ⟨w.heap.size + 2, 4, none⟩ _).setCell ⟨w.heap.size + 2, 5, none⟩ _).setCell ⟨w.heap.size + 2, 6, none⟩ _) = wz at *
                  obtain ⟨z0, z1, z2, z3, z4, z5, z6⟩ := P7.of q1
                  exact bodyPost_ret (v := .tuple #[.agg #[.int .i64 (({ c with base := (applyP c.base m.e.o).1, rev := c.rev + 1, sent := S1 } : Cl)).rev, .slice m1 (({ c with base := (applyP c.base m.e.o).1, rev := c.rev + 1, sent := S1 } : Cl)).base.length m2, .slice m1 (({ c with base := (applyP c.base m.e.o).1, rev := c.rev + 1, sent := S1 } : Cl)).base.length m2, .int .i64 (({ c with base := (applyP c.base m.e.o).1, rev := c.rev + 1, sent := S1 } : Cl)).seq, .slice none 0 0, .slice none 0 0, .bool (({ c with base := (applyP c.base m.e.o).1, rev := c.rev + 1, sent := S1 } : Cl)).joined], .bool false, .int .i64 0]) (by simp [results, Try.results71, go_sem, z0, z1, z2, z3, z4, z5, z6]) rfl ⟨_, rfl, (by rw [← hR1.out]; exact RCl.to (RCl.give (RCl.to hR'.out (Kp.below hbg))) (fun i hi hl => ⟨trivial, q2.same i hl hi.2.2⟩)), Kg.out.B.trans (q2.bel.mono (by omega))⟩
            · have he2 : ((applyP c.base m.e.o).2 != 0) = true := by simpa using he
              have hR1 : Hid (c = R1) := Lib.hid (by have hq := ho1.out; rw [otherC_e he] at hq; exact hq)
              clear he
              obtain ⟨b9, n9, s9, k9, h0, hR⟩ := H7.out.val
              obtain ⟨m1, m2, m3, m4, m5, m6, m7, m8, rfl, rfl, rfl, rfl⟩ := rcl_shape hR
              obtain ⟨x0, x1, x2, x3, x4, x5, x6⟩ := P7.of h0
              have hfz : ∀ i, w7.frozen? ⟨w.heap.size, i, none⟩ = false := fun i => Lib.frozen_of_heap h0 _
              have hgx : w.heap.size < w7.heap.size := lt_of_heap h0
              have hR' := Lib.hid hR
              have E0 := Lib.hid h0
              clear hR h0
              obtain ⟨y0, y1, y2, y3, y4, y5, y6⟩ := P7.of K7.out.Z
              have hfz2 : ∀ i, w7.frozen? ⟨w.heap.size + 2, i, none⟩ = false := fun i => Lib.frozen_of_heap K7.out.Z _
              have hzz := lt_of_heap K7.out.Z
              go_wp2
              obtain ⟨q1, q2⟩ := set7z K7.out.Z (.int .i64 (c).rev) (.slice m1 (c).base.length m2) (.slice m3 (c).now.length m4) (.int .i64 (c).seq) (.slice m5 (c).sent.length m6) (.slice m7 (c).held.length m8) (.bool (c).joined)
              generalize hwz : (((((((w7.setCell ⟨w.heap.size + 2, 0, none⟩ _).setCell ⟨w.heap.size + 2, 1, none⟩ _).setCell ⟨w.heap.size + 2, 2, none⟩ _).setCell ⟨w.heap.size + 2, 3, none⟩ _).setCell ⟨w.heap.size + 2, 4, none⟩ _).setCell ⟨w.heap.size + 2, 5, none⟩ _).setCell ⟨w.heap.size + 2, 6, none⟩ _) = wz at *
              obtain ⟨z0, z1, z2, z3, z4, z5, z6⟩ := P7.of q1
              exact bodyPost_ret (v := .tuple #[.agg #[.int .i64 (c).rev, .slice m1 (c).base.length m2, .slice m3 (c).now.length m4, .int .i64 (c).seq, .slice m5 (c).sent.length m6, .slice m7 (c).held.length m8, .bool (c).joined], .bool false, .int .i64 0]) (by simp [results, Try.results71, go_sem, z0, z1, z2, z3, z4, z5, z6]) rfl ⟨_, rfl, (by rw [← hR1.out]; exact RCl.to hR'.out (fun i hi hl => ⟨trivial, q2.same i hl hi.2.2⟩)), K7.out.B.trans (q2.bel.mono (by omega))⟩
      · have hr := hres.out
        rw [hearC, if_neg (by simpa using hck.out), if_neg ho, if_pos hk] at hr
        simp only [Prod.mk.injEq] at hr
        obtain ⟨hr1, hr2, hr3⟩ := hr
        subst hr1
        subst hr2
        subst hr3
        have hk' : (chkOp m.e.o != 0) = true := by simpa using hk
        clear hres ho hk x0 x1 x2 x3 x4 x5 x6 hfz hgx hR' E0
        obtain ⟨y0, y1, y2, y3, y4, y5, y6⟩ := P7.of K6.out.Z
        have hfz2 : ∀ i, w6.frozen? ⟨w.heap.size + 2, i, none⟩ = false := fun i => Lib.frozen_of_heap K6.out.Z _
        have hzz := lt_of_heap K6.out.Z
        go_wp2
        obtain ⟨q1, q2⟩ := set7z K6.out.Z (.int .i64 0) (.slice none 0 0) (.slice none 0 0) (.int .i64 0) (.slice none 0 0) (.slice none 0 0) (.bool false)
        generalize hwz : (((((((w6.setCell ⟨w.heap.size + 2, 0, none⟩ _).setCell ⟨w.heap.size + 2, 1, none⟩ _).setCell ⟨w.heap.size + 2, 2, none⟩ _).setCell ⟨w.heap.size + 2, 3, none⟩ _).setCell ⟨w.heap.size + 2, 4, none⟩ _).setCell ⟨w.heap.size + 2, 5, none⟩ _).setCell ⟨w.heap.size + 2, 6, none⟩ _) = wz at *
        obtain ⟨z0, z1, z2, z3, z4, z5, z6⟩ := P7.of q1
        exact bodyPost_ret (v := .tuple #[.agg #[.int .i64 0, .slice none 0 0, .slice none 0 0, .int .i64 0, .slice none 0 0, .slice none 0 0, .bool false], .bool false, .int .i64 (chkOp m.e.o)]) (by simp [results, Try.results71, go_sem, z0, z1, z2, z3, z4, z5, z6]) rfl ⟨_, rfl, RCl.zero, K6.out.B.trans (q2.bel.mono (by omega))⟩
end Go.Proofs.Ytgodceplajkcdaa
/- The law ClientSays, walked. -/
namespace Go.Mh
open Go.RowKit
/-- A client in a block of its own, as it may be read. -/
structure Bc (e : TypeId) (w : World) (g : Nat) (cells : Array Value) (c : Cl) : Prop where
  h : w.heap[g]? = some (.cells cells e (0, 0))
  r : RCl (fun _ => True) w (.agg cells) c
theorem Bc.below {e : TypeId} {w w' : World} {g : Nat} {cells : Array Value} {c : Cl} (b : Bc e w g cells c) (hb : Below w.heap.size w w') : Bc e w' g cells c := ⟨(hb.block g (lt_of_heap b.h)).trans b.h, RCl.to b.r (Kp.below hb)⟩
theorem Bc.mk' {e : TypeId} {w w' : World} {cells : Array Value} {c : Cl} {F : Nat → Prop} (h : RCl F w (.agg cells) c) (hW : w.alloc (.cells cells e) = w') : Bc e w' w.heap.size cells c ∧ Below w.heap.size w w' := by
  subst hW
  exact ⟨⟨heap_new w _, RCl.to h (fun k _ hl => ⟨trivial, (bal (brf w) _).block k hl⟩)⟩, bal (brf w) _⟩
theorem doC_bad {c : Cl} {o : List Pt} (h : chkCl c ≠ 0) : doC c o = (cl0, false, chkCl c) := by unfold doC; rw [if_pos h]
theorem hearC_bad {c : Cl} {who : Int} {m : Msg} (h : chkCl c ≠ 0) : hearC c who m = (cl0, false, chkCl c) := by unfold hearC; rw [if_pos h]
end Go.Mh
namespace Go.Proofs.Ytgodceplajkcdaa
open Go.RowKit Go.Mh

set_option maxRecDepth 100000 in
set_option maxHeartbeats 16000000 in
theorem clientSays_walk (FD FC FO FM : Nat → Prop) (dv v u ov : Value) (d : List It) (c : Cl) (o : List Pt) (who : Int) (m : Msg) (w : World) (hd : RItems FD w dv d) (h : RCl FC w v c) (ho : ROp FO w u o) (hm : ROp FM w ov m.e.o) (hm0 : -9223372036854775808 ≤ m.rev) (hm1 : m.rev ≤ 9223372036854775807) :
    Calls Try.prog 19 #[dv, v, u, .int .i64 who, .agg #[.int .i64 m.rev, .int .i64 m.e.client, .int .i64 m.e.seq, ov]] w fun e w' => e = .returned (.bool true) ∧ Below w.heap.size w w' := by
  have HD := Lib.hid (fun w' (hb : Below w.heap.size w w') => RItems.to hd (Kp.below hb))
  have HO := Lib.hid (fun w' (hb : Below w.heap.size w w') => ROp.to ho (Kp.below hb))
  have HM := Lib.hid (fun w' (hb : Below w.heap.size w w') => ROp.to hm (Kp.below hb))
  obtain ⟨da, dc, rfl, _⟩ := RdS.len hd
  obtain ⟨ua, uc, rfl, _⟩ := RdS.len ho
  obtain ⟨oa, oc, rfl, _⟩ := RdS.len hm
  have hT : RCl (fun _ => True) w v c := RCl.to h (Kp.weak w fun _ _ => trivial)
  obtain ⟨b, n, s, k, rfl, _⟩ := id hT
  obtain ⟨p1, p2, p3, p4, p5, p6, p7, p8, rfl, rfl, rfl, rfl⟩ := rcl_shape hT
  clear h hd ho hm
  obtain ⟨w1, hw1⟩ : ∃ w1, w1 = (w.alloc (.cells #[.int .i64 c.rev, .slice p1 c.base.length p2, .slice p3 c.now.length p4, .int .i64 c.seq, .slice p5 c.sent.length p6, .slice p7 c.held.length p8, .bool c.joined] 87)).alloc (.cells #[.int .i64 m.rev, .int .i64 m.e.client, .int .i64 m.e.seq, .slice oa m.e.o.length oc] 89) := ⟨_, rfl⟩
  have hB1 : Below w.heap.size w w1 := by rw [hw1]; exact bal (bal (brf w) _) _
  have Bc1 : Bc 87 w1 w.heap.size #[.int .i64 c.rev, .slice p1 c.base.length p2, .slice p3 c.now.length p4, .int .i64 c.seq, .slice p5 c.sent.length p6, .slice p7 c.held.length p8, .bool c.joined] c := ⟨by rw [hw1]; exact heap_at2 rfl, RCl.to hT (Kp.below hB1)⟩
  have Bm1 : w1.heap[w.heap.size + 1]? = some (.cells #[.int .i64 m.rev, .int .i64 m.e.client, .int .i64 m.e.seq, .slice oa m.e.o.length oc] 89 (0, 0)) := by rw [hw1]; exact heap_at (by simp)
  have BC := Lib.hid Bc1
  have BM := Lib.hid Bm1
  have BB := Lib.hid hB1
  clear Bc1 Bm1 hB1 hT
  obtain ⟨⟨nc, ne⟩, hN⟩ : ∃ q, newC d = q := ⟨_, rfl⟩
  obtain ⟨⟨x, sn, f⟩, hDo⟩ : ∃ q, doC c o = q := ⟨_, rfl⟩
  obtain ⟨⟨y, mr, ge⟩, hHe⟩ : ∃ q, hearC c who m = q := ⟨_, rfl⟩
  obtain ⟨bad, hbad⟩ : ∃ q, chkCl c = q := ⟨_, rfl⟩
  have hN' := Lib.hid hN
  have hDo' := Lib.hid hDo
  have hHe' := Lib.hid hHe
  have hbad' := Lib.hid hbad
  clear hN hDo hHe hbad
  have bsn : (sn == sn) = true := by cases sn <;> rfl
  have bmr : (mr == mr) = true := by cases mr <;> rfl
  have bf : (f == f) = true := by simp
  have bg : (ge == ge) = true := by simp
  have bbad : (bad != bad) = false := by simp
  have bne : (ne != ne) = false := by simp
  have hm01 := Lib.hid (And.intro hm0 hm1)
  clear hm0 hm1
  go_enter Try.func19, Try.ntmps19
  go_upto_region 1 with fail
  rw [← hw1]
  clear hw1
  have C := Lib.hid (clNew_any FD _ d w1 (HD.out w1 BB.out))
  rw [hN'.out] at C
  go_wp2_with fail
  refine C.out.mono ?_
  rintro e w2 ⟨vn, rfl, hr, hb⟩
  have BC := Lib.hid (BC.out.below hb)
  have BM := Lib.hid ((hb.block _ (lt_of_heap BM.out)).trans BM.out)
  have BB := Lib.hid (btr BB.out hb)
  clear C hb
  obtain ⟨bq, nq, sq, kq, rfl, _⟩ := id hr
  obtain ⟨n1, n2, n3, n4, n5, n6, n7, n8, rfl, rfl, rfl, rfl⟩ := rcl_shape hr
  have hr' := Lib.hid hr
  clear hr
  go_upto_region 2 with fail
  refine name_world ?_
  intro w3 hW
  obtain ⟨hBx, hb⟩ := Bc.mk' (e := 87) hr'.out hW
  obtain ⟨gBN, hgBN⟩ : ∃ g, g = w2.heap.size := ⟨_, rfl⟩
  rw [← hgBN] at hBx ⊢
  have BC := Lib.hid (BC.out.below hb)
  have BM := Lib.hid ((hb.block _ (lt_of_heap BM.out)).trans BM.out)
  have BB := Lib.hid (btr BB.out hb)
  have BN := Lib.hid hBx
  clear hW hBx hb hr' hgBN
  obtain ⟨x0, x1, x2, x3, x4, x5, x6⟩ := P7.of BC.out.h
  have C := Lib.hid (clDo_any _ FO _ _ c o w3 BC.out.r (HO.out w3 BB.out))
  rw [hDo'.out] at C
  go_wp2_with fail
  refine C.out.mono ?_
  rintro e w4 ⟨vx, rfl, hr, hb⟩
  have BC := Lib.hid (BC.out.below hb)
  have BN := Lib.hid (BN.out.below hb)
  have BM := Lib.hid ((hb.block _ (lt_of_heap BM.out)).trans BM.out)
  have BB := Lib.hid (btr BB.out hb)
  clear C hb x0 x1 x2 x3 x4 x5 x6
  obtain ⟨bq, nq, sq, kq, rfl, _⟩ := id hr
  obtain ⟨a1, a2, a3, a4, a5, a6, a7, a8, rfl, rfl, rfl, rfl⟩ := rcl_shape hr
  have hr' := Lib.hid hr
  clear hr
  go_upto_region 3 with fail
  refine name_world ?_
  intro w5 hW
  obtain ⟨hBx, hb⟩ := Bc.mk' (e := 87) hr'.out hW
  obtain ⟨gBX, hgBX⟩ : ∃ g, g = w4.heap.size := ⟨_, rfl⟩
  rw [← hgBX] at hBx ⊢
  have BC := Lib.hid (BC.out.below hb)
  have BN := Lib.hid (BN.out.below hb)
  have BM := Lib.hid ((hb.block _ (lt_of_heap BM.out)).trans BM.out)
  have BB := Lib.hid (btr BB.out hb)
  have BX := Lib.hid hBx
  clear hW hBx hb hr' hgBX
  obtain ⟨x0, x1, x2, x3, x4, x5, x6⟩ := P7.of BC.out.h
  obtain ⟨v0, v1, v2, v3⟩ := P4.of BM.out
  have C := Lib.hid (clHear_any _ FM _ _ c who m w5 BC.out.r (HM.out w5 BB.out))
  rw [hHe'.out] at C
  go_wp2_with fail
  refine C.out.mono ?_
  rintro e w6 ⟨vy, rfl, hr, hb⟩
  have BC := Lib.hid (BC.out.below hb)
  have BN := Lib.hid (BN.out.below hb)
  have BX := Lib.hid (BX.out.below hb)
  have BM := Lib.hid ((hb.block _ (lt_of_heap BM.out)).trans BM.out)
  have BB := Lib.hid (btr BB.out hb)
  clear C hb x0 x1 x2 x3 x4 x5 x6 v0 v1 v2 v3
  obtain ⟨bq, nq, sq, kq, rfl, _⟩ := id hr
  obtain ⟨b1, b2, b3, b4, b5, b6, b7, b8, rfl, rfl, rfl, rfl⟩ := rcl_shape hr
  have hr' := Lib.hid hr
  clear hr
  go_upto_region 4 with fail
  refine name_world ?_
  intro w7 hW
  obtain ⟨hBx, hb⟩ := Bc.mk' (e := 87) hr'.out hW
  obtain ⟨gBY, hgBY⟩ : ∃ g, g = w6.heap.size := ⟨_, rfl⟩
  rw [← hgBY] at hBx ⊢
  have BC := Lib.hid (BC.out.below hb)
  have BN := Lib.hid (BN.out.below hb)
  have BX := Lib.hid (BX.out.below hb)
  have BM := Lib.hid ((hb.block _ (lt_of_heap BM.out)).trans BM.out)
  have BB := Lib.hid (btr BB.out hb)
  have BY := Lib.hid hBx
  clear hW hBx hb hr' hgBY
  go_upto_region 5 with fail
  refine name_world ?_
  intro w8 hW
  obtain ⟨hBx, hb⟩ := Bc.mk' (e := 87) (RCl.zero (F := fun _ => True) (w := w7)) hW
  obtain ⟨gZ, hgZ⟩ : ∃ g, g = w7.heap.size := ⟨_, rfl⟩
  rw [← hgZ] at hBx ⊢
  have BC := Lib.hid (BC.out.below hb)
  have BN := Lib.hid (BN.out.below hb)
  have BX := Lib.hid (BX.out.below hb)
  have BY := Lib.hid (BY.out.below hb)
  have BM := Lib.hid ((hb.block _ (lt_of_heap BM.out)).trans BM.out)
  have BB := Lib.hid (btr BB.out hb)
  have BZ := Lib.hid hBx
  clear hW hBx hb hgZ
  obtain ⟨x0, x1, x2, x3, x4, x5, x6⟩ := P7.of BC.out.h
  have C := Lib.hid (refClCheck_any _ _ c w8 BC.out.r)
  rw [hbad'.out] at C
  go_wp2_with fail
  refine C.out.mono ?_
  rintro e w9 ⟨rfl, hb⟩
  have BC := Lib.hid (BC.out.below hb)
  have BN := Lib.hid (BN.out.below hb)
  have BX := Lib.hid (BX.out.below hb)
  have BY := Lib.hid (BY.out.below hb)
  have BZ := Lib.hid (BZ.out.below hb)
  have BM := Lib.hid ((hb.block _ (lt_of_heap BM.out)).trans BM.out)
  have BB := Lib.hid (btr BB.out hb)
  clear C hb x0 x1 x2 x3 x4 x5 x6
  have C := Lib.hid (heard_any w9)
  go_wp2_with fail
  refine C.out.mono ?_
  rintro e w10 ⟨rfl, hb⟩
  have BC := Lib.hid (BC.out.below hb)
  have BN := Lib.hid (BN.out.below hb)
  have BX := Lib.hid (BX.out.below hb)
  have BY := Lib.hid (BY.out.below hb)
  have BZ := Lib.hid (BZ.out.below hb)
  have BM := Lib.hid ((hb.block _ (lt_of_heap BM.out)).trans BM.out)
  have BB := Lib.hid (btr BB.out hb)
  clear C hb
  obtain ⟨x0, x1, x2, x3, x4, x5, x6⟩ := P7.of BC.out.h
  have C := Lib.hid (clCheck_any _ _ c w10 BC.out.r)
  rw [hbad'.out] at C
  go_wp2_with fail
  refine C.out.mono ?_
  rintro e w11 ⟨rfl, hb⟩
  have BC := Lib.hid (BC.out.below hb)
  have BN := Lib.hid (BN.out.below hb)
  have BX := Lib.hid (BX.out.below hb)
  have BY := Lib.hid (BY.out.below hb)
  have BZ := Lib.hid (BZ.out.below hb)
  have BM := Lib.hid ((hb.block _ (lt_of_heap BM.out)).trans BM.out)
  have BB := Lib.hid (btr BB.out hb)
  clear C hb x0 x1 x2 x3 x4 x5 x6
  obtain ⟨x0, x1, x2, x3, x4, x5, x6⟩ := P7.of BC.out.h
  have C := Lib.hid (clSame_any _ _ _ _ c w11 BC.out.r BC.out.r)
  go_wp2_with fail
  refine C.out.mono ?_
  rintro e w12 ⟨rfl, hb⟩
  have BC := Lib.hid (BC.out.below hb)
  have BN := Lib.hid (BN.out.below hb)
  have BX := Lib.hid (BX.out.below hb)
  have BY := Lib.hid (BY.out.below hb)
  have BZ := Lib.hid (BZ.out.below hb)
  have BM := Lib.hid ((hb.block _ (lt_of_heap BM.out)).trans BM.out)
  have BB := Lib.hid (btr BB.out hb)
  clear C hb x0 x1 x2 x3 x4 x5 x6
  have hnd : Hid ((ne = 0 ∧ nc = ⟨0, d, d, 0, [], [], true⟩ ∧ chkDoc d = ne) ∨ (ne ≠ 0 ∧ nc = cl0 ∧ chkDoc d = ne)) := Lib.hid (by
    have hq := hN'.out
    unfold newC at hq
    by_cases hz : chkDoc d = 0
    · rw [if_neg (by simpa using hz)] at hq
      cases hq
      exact Or.inl ⟨rfl, rfl, hz⟩
    · rw [if_pos hz] at hq
      cases hq
      exact Or.inr ⟨hz, rfl, rfl⟩)
  have hcd : Hid (chkDoc d = ne) := Lib.hid (by rcases hnd.out with ⟨_, _, e⟩ | ⟨_, _, e⟩ <;> exact e)
  have C := Lib.hid (checkDoc_any FD _ d w12 (HD.out w12 BB.out))
  rw [hcd.out] at C
  go_wp2_with fail
  refine C.out.mono ?_
  rintro e w13 ⟨rfl, hb⟩
  have BC := Lib.hid (BC.out.below hb)
  have BN := Lib.hid (BN.out.below hb)
  have BX := Lib.hid (BX.out.below hb)
  have BY := Lib.hid (BY.out.below hb)
  have BZ := Lib.hid (BZ.out.below hb)
  have BM := Lib.hid ((hb.block _ (lt_of_heap BM.out)).trans BM.out)
  have BB := Lib.hid (btr BB.out hb)
  clear C hb
  rcases hnd.out with ⟨e0, e1, _⟩ | ⟨e0, e1, _⟩
  · subst e0
    have BN0 : Hid (RCl (fun _ => True) w13 (.agg #[.int .i64 nc.rev, .slice n1 nc.base.length n2, .slice n3 nc.now.length n4, .int .i64 nc.seq, .slice n5 nc.sent.length n6, .slice n7 nc.held.length n8, .bool nc.joined]) ⟨0, d, d, 0, [], [], true⟩) := Lib.hid (by have := BN.out.r; rw [e1] at this ⊢; exact this)
    have BN9 : Hid (RCl (fun _ => True) w13 (.agg #[.int .i64 0, .slice da d.length dc, .slice da d.length dc, .int .i64 0, .slice none 0 0, .slice none 0 0, .bool true]) ⟨0, d, d, 0, [], [], true⟩) := Lib.hid ⟨_, _, _, _, rfl, RItems.to (HD.out w13 BB.out) (Kp.weak _ fun _ _ => trivial), RItems.to (HD.out w13 BB.out) (Kp.weak _ fun _ _ => trivial), RdS.nil, RdS.nil⟩
    clear e1 hnd hcd
    obtain ⟨x0, x1, x2, x3, x4, x5, x6⟩ := P7.of BN.out.h
    have C := Lib.hid (refClSame_any _ _ _ _ ⟨0, d, d, 0, [], [], true⟩ w13 BN0.out BN9.out)
    go_wp2_with fail
    refine C.out.mono ?_
    rintro e w14 ⟨rfl, hb⟩
    have BC := Lib.hid (BC.out.below hb)
    have BN := Lib.hid (BN.out.below hb)
    have BX := Lib.hid (BX.out.below hb)
    have BY := Lib.hid (BY.out.below hb)
    have BZ := Lib.hid (BZ.out.below hb)
    have BM := Lib.hid ((hb.block _ (lt_of_heap BM.out)).trans BM.out)
    have BB := Lib.hid (btr BB.out hb)
    clear C hb x0 x1 x2 x3 x4 x5 x6
    clear BN0 BN9
    by_cases hz : bad = 0
    · subst hz
      have hok := Lib.hid (ClOk.of hbad'.out)
      obtain ⟨x0, x1, x2, x3, x4, x5, x6⟩ := P7.of BC.out.h
      have C := Lib.hid (refDo_any _ FO _ _ c o w14 BC.out.r (HO.out w14 BB.out) hok.out)
      rw [hDo'.out] at C
      go_wp2_with fail
      refine C.out.mono ?_
      rintro e w15 ⟨vx2, rfl, hr, hb⟩
      have BC := Lib.hid (BC.out.below hb)
      have BN := Lib.hid (BN.out.below hb)
      have BX := Lib.hid (BX.out.below hb)
      have BY := Lib.hid (BY.out.below hb)
      have BZ := Lib.hid (BZ.out.below hb)
      have BM := Lib.hid ((hb.block _ (lt_of_heap BM.out)).trans BM.out)
      have BB := Lib.hid (btr BB.out hb)
      clear C hb x0 x1 x2 x3 x4 x5 x6
      obtain ⟨bq, nq, sq, kq, rfl, _⟩ := id hr
      obtain ⟨e1, e2, e3, e4, e5, e6, e7, e8, rfl, rfl, rfl, rfl⟩ := rcl_shape hr
      have hr' := Lib.hid hr
      clear hr
      go_upto_region 14 with fail
      refine name_world ?_
      intro w16 hW
      obtain ⟨hBx, hb⟩ := Bc.mk' (e := 87) hr'.out hW
      obtain ⟨gBX2, hgBX2⟩ : ∃ g, g = w15.heap.size := ⟨_, rfl⟩
      rw [← hgBX2] at hBx ⊢
      have BC := Lib.hid (BC.out.below hb)
      have BN := Lib.hid (BN.out.below hb)
      have BX := Lib.hid (BX.out.below hb)
      have BY := Lib.hid (BY.out.below hb)
      have BZ := Lib.hid (BZ.out.below hb)
      have BM := Lib.hid ((hb.block _ (lt_of_heap BM.out)).trans BM.out)
      have BB := Lib.hid (btr BB.out hb)
      have BX2 := Lib.hid hBx
      clear hW hBx hb hr' hgBX2
      obtain ⟨x0, x1, x2, x3, x4, x5, x6⟩ := P7.of BC.out.h
      obtain ⟨v0, v1, v2, v3⟩ := P4.of BM.out
      have C := Lib.hid (refHear_any _ FM _ _ c who m w16 BC.out.r (HM.out w16 BB.out) hok.out hm01.out.1 hm01.out.2)
      rw [hHe'.out] at C
      go_wp2_with fail
      refine C.out.mono ?_
      rintro e w17 ⟨vy2, rfl, hr, hb⟩
      have BC := Lib.hid (BC.out.below hb)
      have BN := Lib.hid (BN.out.below hb)
      have BX := Lib.hid (BX.out.below hb)
      have BY := Lib.hid (BY.out.below hb)
      have BZ := Lib.hid (BZ.out.below hb)
      have BX2 := Lib.hid (BX2.out.below hb)
      have BM := Lib.hid ((hb.block _ (lt_of_heap BM.out)).trans BM.out)
      have BB := Lib.hid (btr BB.out hb)
      clear C hb x0 x1 x2 x3 x4 x5 x6 v0 v1 v2 v3
      obtain ⟨bq, nq, sq, kq, rfl, _⟩ := id hr
      obtain ⟨h1, h2, h3, h4, h5, h6, h7, h8, rfl, rfl, rfl, rfl⟩ := rcl_shape hr
      have hr' := Lib.hid hr
      clear hr
      go_upto_region 15 with fail
      refine name_world ?_
      intro w18 hW
      obtain ⟨hBx, hb⟩ := Bc.mk' (e := 87) hr'.out hW
      obtain ⟨gBY2, hgBY2⟩ : ∃ g, g = w17.heap.size := ⟨_, rfl⟩
      rw [← hgBY2] at hBx ⊢
      have BC := Lib.hid (BC.out.below hb)
      have BN := Lib.hid (BN.out.below hb)
      have BX := Lib.hid (BX.out.below hb)
      have BY := Lib.hid (BY.out.below hb)
      have BZ := Lib.hid (BZ.out.below hb)
      have BX2 := Lib.hid (BX2.out.below hb)
      have BM := Lib.hid ((hb.block _ (lt_of_heap BM.out)).trans BM.out)
      have BB := Lib.hid (btr BB.out hb)
      have BY2 := Lib.hid hBx
      clear hW hBx hb hr' hgBY2
      obtain ⟨x0, x1, x2, x3, x4, x5, x6⟩ := P7.of BX.out.h
      obtain ⟨y0, y1, y2, y3, y4, y5, y6⟩ := P7.of BX2.out.h
      have C := Lib.hid (refClSame_any _ _ _ _ x w18 BX.out.r BX2.out.r)
      go_wp2_with fail
      refine C.out.mono ?_
      rintro e w19 ⟨rfl, hb⟩
      have BC := Lib.hid (BC.out.below hb)
      have BN := Lib.hid (BN.out.below hb)
      have BX := Lib.hid (BX.out.below hb)
      have BY := Lib.hid (BY.out.below hb)
      have BZ := Lib.hid (BZ.out.below hb)
      have BX2 := Lib.hid (BX2.out.below hb)
      have BY2 := Lib.hid (BY2.out.below hb)
      have BM := Lib.hid ((hb.block _ (lt_of_heap BM.out)).trans BM.out)
      have BB := Lib.hid (btr BB.out hb)
      clear C hb x0 x1 x2 x3 x4 x5 x6 y0 y1 y2 y3 y4 y5 y6
      obtain ⟨x0, x1, x2, x3, x4, x5, x6⟩ := P7.of BY.out.h
      obtain ⟨y0, y1, y2, y3, y4, y5, y6⟩ := P7.of BY2.out.h
      have C := Lib.hid (refClSame_any _ _ _ _ y w19 BY.out.r BY2.out.r)
      go_wp2_with fail
      refine C.out.mono ?_
      rintro e w20 ⟨rfl, hb⟩
      have BC := Lib.hid (BC.out.below hb)
      have BN := Lib.hid (BN.out.below hb)
      have BX := Lib.hid (BX.out.below hb)
      have BY := Lib.hid (BY.out.below hb)
      have BZ := Lib.hid (BZ.out.below hb)
      have BX2 := Lib.hid (BX2.out.below hb)
      have BY2 := Lib.hid (BY2.out.below hb)
      have BM := Lib.hid ((hb.block _ (lt_of_heap BM.out)).trans BM.out)
      have BB := Lib.hid (btr BB.out hb)
      clear C hb x0 x1 x2 x3 x4 x5 x6 y0 y1 y2 y3 y4 y5 y6
      go_wp2
      go_ret
      exact ⟨rfl, BB.out⟩
    · have hz1 : (bad != 0) = true := by simpa using hz
      have hD0 := hDo'.out
      have hH0 := hHe'.out
      rw [doC_bad (by rw [hbad'.out]; exact hz), hbad'.out] at hD0
      rw [hearC_bad (by rw [hbad'.out]; exact hz), hbad'.out] at hH0
      simp only [Prod.mk.injEq] at hD0 hH0
      obtain ⟨ex, rfl, rfl⟩ := hD0
      obtain ⟨ey, rfl, rfl⟩ := hH0
      have BX0 : Hid (RCl (fun _ => True) w14 (.agg #[.int .i64 x.rev, .slice a1 x.base.length a2, .slice a3 x.now.length a4, .int .i64 x.seq, .slice a5 x.sent.length a6, .slice a7 x.held.length a8, .bool x.joined]) cl0) := Lib.hid (by rw [ex]; exact BX.out.r)
      have BY0 : Hid (RCl (fun _ => True) w14 (.agg #[.int .i64 y.rev, .slice b1 y.base.length b2, .slice b3 y.now.length b4, .int .i64 y.seq, .slice b5 y.sent.length b6, .slice b7 y.held.length b8, .bool y.joined]) cl0) := Lib.hid (by rw [ey]; exact BY.out.r)
      clear hz ex ey
      obtain ⟨x0, x1, x2, x3, x4, x5, x6⟩ := P7.of BX.out.h
      obtain ⟨y0, y1, y2, y3, y4, y5, y6⟩ := P7.of BZ.out.h
      have C := Lib.hid (refClSame_any _ _ _ _ cl0 w14 BX0.out BZ.out.r)
      go_wp2_with fail
      refine C.out.mono ?_
      rintro e w15 ⟨rfl, hb⟩
      have BC := Lib.hid (BC.out.below hb)
      have BN := Lib.hid (BN.out.below hb)
      have BX := Lib.hid (BX.out.below hb)
      have BY := Lib.hid (BY.out.below hb)
      have BZ := Lib.hid (BZ.out.below hb)
      have BM := Lib.hid ((hb.block _ (lt_of_heap BM.out)).trans BM.out)
      have BB := Lib.hid (btr BB.out hb)
      have BY1 : Hid (RCl (fun _ => True) w15 (.agg #[.int .i64 y.rev, .slice b1 y.base.length b2, .slice b3 y.now.length b4, .int .i64 y.seq, .slice b5 y.sent.length b6, .slice b7 y.held.length b8, .bool y.joined]) cl0) := Lib.hid (RCl.to BY0.out (Kp.below hb))
      clear C hb x0 x1 x2 x3 x4 x5 x6 y0 y1 y2 y3 y4 y5 y6
      obtain ⟨x0, x1, x2, x3, x4, x5, x6⟩ := P7.of BY.out.h
      obtain ⟨y0, y1, y2, y3, y4, y5, y6⟩ := P7.of BZ.out.h
      have C := Lib.hid (refClSame_any _ _ _ _ cl0 w15 BY1.out BZ.out.r)
      go_wp2_with fail
      refine C.out.mono ?_
      rintro e w16 ⟨rfl, hb⟩
      have BC := Lib.hid (BC.out.below hb)
      have BN := Lib.hid (BN.out.below hb)
      have BX := Lib.hid (BX.out.below hb)
      have BY := Lib.hid (BY.out.below hb)
      have BZ := Lib.hid (BZ.out.below hb)
      have BM := Lib.hid ((hb.block _ (lt_of_heap BM.out)).trans BM.out)
      have BB := Lib.hid (btr BB.out hb)
      clear C hb x0 x1 x2 x3 x4 x5 x6 y0 y1 y2 y3 y4 y5 y6
      go_wp2
      go_ret
      exact ⟨rfl, BB.out⟩
  · have hne1 : (ne != 0) = true := by simpa using e0
    have hne2 : (ne == 0) = false := by simpa using e0
    have BN0 : Hid (RCl (fun _ => True) w13 (.agg #[.int .i64 nc.rev, .slice n1 nc.base.length n2, .slice n3 nc.now.length n4, .int .i64 nc.seq, .slice n5 nc.sent.length n6, .slice n7 nc.held.length n8, .bool nc.joined]) cl0) := Lib.hid (by have := BN.out.r; rw [e1] at this ⊢; exact this)
    clear e0 e1 hnd hcd
    obtain ⟨x0, x1, x2, x3, x4, x5, x6⟩ := P7.of BN.out.h
    obtain ⟨y0, y1, y2, y3, y4, y5, y6⟩ := P7.of BZ.out.h
    have C := Lib.hid (refClSame_any _ _ _ _ cl0 w13 BN0.out BZ.out.r)
    go_wp2_with fail
    refine C.out.mono ?_
    rintro e w14 ⟨rfl, hb⟩
    have BC := Lib.hid (BC.out.below hb)
    have BN := Lib.hid (BN.out.below hb)
    have BX := Lib.hid (BX.out.below hb)
    have BY := Lib.hid (BY.out.below hb)
    have BZ := Lib.hid (BZ.out.below hb)
    have BM := Lib.hid ((hb.block _ (lt_of_heap BM.out)).trans BM.out)
    have BB := Lib.hid (btr BB.out hb)
    clear C hb x0 x1 x2 x3 x4 x5 x6 y0 y1 y2 y3 y4 y5 y6
    clear BN0
    by_cases hz : bad = 0
    · subst hz
      have hok := Lib.hid (ClOk.of hbad'.out)
      obtain ⟨x0, x1, x2, x3, x4, x5, x6⟩ := P7.of BC.out.h
      have C := Lib.hid (refDo_any _ FO _ _ c o w14 BC.out.r (HO.out w14 BB.out) hok.out)
      rw [hDo'.out] at C
      go_wp2_with fail
      refine C.out.mono ?_
      rintro e w15 ⟨vx2, rfl, hr, hb⟩
      have BC := Lib.hid (BC.out.below hb)
      have BN := Lib.hid (BN.out.below hb)
      have BX := Lib.hid (BX.out.below hb)
      have BY := Lib.hid (BY.out.below hb)
      have BZ := Lib.hid (BZ.out.below hb)
      have BM := Lib.hid ((hb.block _ (lt_of_heap BM.out)).trans BM.out)
      have BB := Lib.hid (btr BB.out hb)
      clear C hb x0 x1 x2 x3 x4 x5 x6
      obtain ⟨bq, nq, sq, kq, rfl, _⟩ := id hr
      obtain ⟨e1, e2, e3, e4, e5, e6, e7, e8, rfl, rfl, rfl, rfl⟩ := rcl_shape hr
      have hr' := Lib.hid hr
      clear hr
      go_upto_region 14 with fail
      refine name_world ?_
      intro w16 hW
      obtain ⟨hBx, hb⟩ := Bc.mk' (e := 87) hr'.out hW
      obtain ⟨gBX2, hgBX2⟩ : ∃ g, g = w15.heap.size := ⟨_, rfl⟩
      rw [← hgBX2] at hBx ⊢
      have BC := Lib.hid (BC.out.below hb)
      have BN := Lib.hid (BN.out.below hb)
      have BX := Lib.hid (BX.out.below hb)
      have BY := Lib.hid (BY.out.below hb)
      have BZ := Lib.hid (BZ.out.below hb)
      have BM := Lib.hid ((hb.block _ (lt_of_heap BM.out)).trans BM.out)
      have BB := Lib.hid (btr BB.out hb)
      have BX2 := Lib.hid hBx
      clear hW hBx hb hr' hgBX2
      obtain ⟨x0, x1, x2, x3, x4, x5, x6⟩ := P7.of BC.out.h
      obtain ⟨v0, v1, v2, v3⟩ := P4.of BM.out
      have C := Lib.hid (refHear_any _ FM _ _ c who m w16 BC.out.r (HM.out w16 BB.out) hok.out hm01.out.1 hm01.out.2)
      rw [hHe'.out] at C
      go_wp2_with fail
      refine C.out.mono ?_
      rintro e w17 ⟨vy2, rfl, hr, hb⟩
      have BC := Lib.hid (BC.out.below hb)
      have BN := Lib.hid (BN.out.below hb)
      have BX := Lib.hid (BX.out.below hb)
      have BY := Lib.hid (BY.out.below hb)
      have BZ := Lib.hid (BZ.out.below hb)
      have BX2 := Lib.hid (BX2.out.below hb)
      have BM := Lib.hid ((hb.block _ (lt_of_heap BM.out)).trans BM.out)
      have BB := Lib.hid (btr BB.out hb)
      clear C hb x0 x1 x2 x3 x4 x5 x6 v0 v1 v2 v3
      obtain ⟨bq, nq, sq, kq, rfl, _⟩ := id hr
      obtain ⟨h1, h2, h3, h4, h5, h6, h7, h8, rfl, rfl, rfl, rfl⟩ := rcl_shape hr
      have hr' := Lib.hid hr
      clear hr
      go_upto_region 15 with fail
      refine name_world ?_
      intro w18 hW
      obtain ⟨hBx, hb⟩ := Bc.mk' (e := 87) hr'.out hW
      obtain ⟨gBY2, hgBY2⟩ : ∃ g, g = w17.heap.size := ⟨_, rfl⟩
      rw [← hgBY2] at hBx ⊢
      have BC := Lib.hid (BC.out.below hb)
      have BN := Lib.hid (BN.out.below hb)
      have BX := Lib.hid (BX.out.below hb)
      have BY := Lib.hid (BY.out.below hb)
      have BZ := Lib.hid (BZ.out.below hb)
      have BX2 := Lib.hid (BX2.out.below hb)
      have BM := Lib.hid ((hb.block _ (lt_of_heap BM.out)).trans BM.out)
      have BB := Lib.hid (btr BB.out hb)
      have BY2 := Lib.hid hBx
      clear hW hBx hb hr' hgBY2
      obtain ⟨x0, x1, x2, x3, x4, x5, x6⟩ := P7.of BX.out.h
      obtain ⟨y0, y1, y2, y3, y4, y5, y6⟩ := P7.of BX2.out.h
      have C := Lib.hid (refClSame_any _ _ _ _ x w18 BX.out.r BX2.out.r)
      go_wp2_with fail
      refine C.out.mono ?_
      rintro e w19 ⟨rfl, hb⟩
      have BC := Lib.hid (BC.out.below hb)
      have BN := Lib.hid (BN.out.below hb)
      have BX := Lib.hid (BX.out.below hb)
      have BY := Lib.hid (BY.out.below hb)
      have BZ := Lib.hid (BZ.out.below hb)
      have BX2 := Lib.hid (BX2.out.below hb)
      have BY2 := Lib.hid (BY2.out.below hb)
      have BM := Lib.hid ((hb.block _ (lt_of_heap BM.out)).trans BM.out)
      have BB := Lib.hid (btr BB.out hb)
      clear C hb x0 x1 x2 x3 x4 x5 x6 y0 y1 y2 y3 y4 y5 y6
      obtain ⟨x0, x1, x2, x3, x4, x5, x6⟩ := P7.of BY.out.h
      obtain ⟨y0, y1, y2, y3, y4, y5, y6⟩ := P7.of BY2.out.h
      have C := Lib.hid (refClSame_any _ _ _ _ y w19 BY.out.r BY2.out.r)
      go_wp2_with fail
      refine C.out.mono ?_
      rintro e w20 ⟨rfl, hb⟩
      have BC := Lib.hid (BC.out.below hb)
      have BN := Lib.hid (BN.out.below hb)
      have BX := Lib.hid (BX.out.below hb)
      have BY := Lib.hid (BY.out.below hb)
      have BZ := Lib.hid (BZ.out.below hb)
      have BX2 := Lib.hid (BX2.out.below hb)
      have BY2 := Lib.hid (BY2.out.below hb)
      have BM := Lib.hid ((hb.block _ (lt_of_heap BM.out)).trans BM.out)
      have BB := Lib.hid (btr BB.out hb)
      clear C hb x0 x1 x2 x3 x4 x5 x6 y0 y1 y2 y3 y4 y5 y6
      go_wp2
      go_ret
      exact ⟨rfl, BB.out⟩
    · have hz1 : (bad != 0) = true := by simpa using hz
      have hD0 := hDo'.out
      have hH0 := hHe'.out
      rw [doC_bad (by rw [hbad'.out]; exact hz), hbad'.out] at hD0
      rw [hearC_bad (by rw [hbad'.out]; exact hz), hbad'.out] at hH0
      simp only [Prod.mk.injEq] at hD0 hH0
      obtain ⟨ex, rfl, rfl⟩ := hD0
      obtain ⟨ey, rfl, rfl⟩ := hH0
      have BX0 : Hid (RCl (fun _ => True) w14 (.agg #[.int .i64 x.rev, .slice a1 x.base.length a2, .slice a3 x.now.length a4, .int .i64 x.seq, .slice a5 x.sent.length a6, .slice a7 x.held.length a8, .bool x.joined]) cl0) := Lib.hid (by rw [ex]; exact BX.out.r)
      have BY0 : Hid (RCl (fun _ => True) w14 (.agg #[.int .i64 y.rev, .slice b1 y.base.length b2, .slice b3 y.now.length b4, .int .i64 y.seq, .slice b5 y.sent.length b6, .slice b7 y.held.length b8, .bool y.joined]) cl0) := Lib.hid (by rw [ey]; exact BY.out.r)
      clear hz ex ey
      obtain ⟨x0, x1, x2, x3, x4, x5, x6⟩ := P7.of BX.out.h
      obtain ⟨y0, y1, y2, y3, y4, y5, y6⟩ := P7.of BZ.out.h
      have C := Lib.hid (refClSame_any _ _ _ _ cl0 w14 BX0.out BZ.out.r)
      go_wp2_with fail
      refine C.out.mono ?_
      rintro e w15 ⟨rfl, hb⟩
      have BC := Lib.hid (BC.out.below hb)
      have BN := Lib.hid (BN.out.below hb)
      have BX := Lib.hid (BX.out.below hb)
      have BY := Lib.hid (BY.out.below hb)
      have BZ := Lib.hid (BZ.out.below hb)
      have BM := Lib.hid ((hb.block _ (lt_of_heap BM.out)).trans BM.out)
      have BB := Lib.hid (btr BB.out hb)
      have BY1 : Hid (RCl (fun _ => True) w15 (.agg #[.int .i64 y.rev, .slice b1 y.base.length b2, .slice b3 y.now.length b4, .int .i64 y.seq, .slice b5 y.sent.length b6, .slice b7 y.held.length b8, .bool y.joined]) cl0) := Lib.hid (RCl.to BY0.out (Kp.below hb))
      clear C hb x0 x1 x2 x3 x4 x5 x6 y0 y1 y2 y3 y4 y5 y6
      obtain ⟨x0, x1, x2, x3, x4, x5, x6⟩ := P7.of BY.out.h
      obtain ⟨y0, y1, y2, y3, y4, y5, y6⟩ := P7.of BZ.out.h
      have C := Lib.hid (refClSame_any _ _ _ _ cl0 w15 BY1.out BZ.out.r)
      go_wp2_with fail
      refine C.out.mono ?_
      rintro e w16 ⟨rfl, hb⟩
      have BC := Lib.hid (BC.out.below hb)
      have BN := Lib.hid (BN.out.below hb)
      have BX := Lib.hid (BX.out.below hb)
      have BY := Lib.hid (BY.out.below hb)
      have BZ := Lib.hid (BZ.out.below hb)
      have BM := Lib.hid ((hb.block _ (lt_of_heap BM.out)).trans BM.out)
      have BB := Lib.hid (btr BB.out hb)
      clear C hb x0 x1 x2 x3 x4 x5 x6 y0 y1 y2 y3 y4 y5 y6
      go_wp2
      go_ret
      exact ⟨rfl, BB.out⟩
end Go.Proofs.Ytgodceplajkcdaa
