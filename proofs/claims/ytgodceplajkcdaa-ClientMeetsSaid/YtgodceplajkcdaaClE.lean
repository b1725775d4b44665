/- Package client: Do: an operation done at once. -/
import Derived.Test.YtgodceplajkcdaaClC
import Derived.Test.YtgodceplajkcdaaLOpNothing
import Derived.Test.YtgodceplajkcdaaOtJoin
namespace Go.Mh
open Go.RowKit
/-- A client's value stored into a block. -/
theorem CAt.ofVal {e : TypeId} {F : Nat → Prop} {w : World} {g : Nat} {c : Cl} {Fq : Nat → Prop} {u0 u1 u2 u3 u4 u5 u6 b n s k : Value} (h : w.heap[g]? = some (.cells #[u0, u1, u2, u3, u4, u5, u6] e (0, 0))) (hR : RCl Fq w (.agg #[.int .i64 c.rev, b, n, .int .i64 c.seq, s, k, .bool c.joined]) c) (hg : ¬ F g) (hN : ∀ k, w.heap.size ≤ k → F k) (hF : ∀ k, Fq k → F k) :
    CAt e F (((((((w.setCell ⟨g, 0, none⟩ (.int .i64 c.rev)).setCell ⟨g, 1, none⟩ b).setCell ⟨g, 2, none⟩ n).setCell ⟨g, 3, none⟩ (.int .i64 c.seq)).setCell ⟨g, 4, none⟩ s).setCell ⟨g, 5, none⟩ k).setCell ⟨g, 6, none⟩ (.bool c.joined)) g c ∧
    Stays g w (((((((w.setCell ⟨g, 0, none⟩ (.int .i64 c.rev)).setCell ⟨g, 1, none⟩ b).setCell ⟨g, 2, none⟩ n).setCell ⟨g, 3, none⟩ (.int .i64 c.seq)).setCell ⟨g, 4, none⟩ s).setCell ⟨g, 5, none⟩ k).setCell ⟨g, 6, none⟩ (.bool c.joined)) := by
  obtain ⟨q1, q2⟩ := set7z h (.int .i64 c.rev) b n (.int .i64 c.seq) s k (.bool c.joined)
  refine ⟨?_, q2⟩
  obtain ⟨_, _, _, _, e0, h1, h2, h3, h4⟩ := hR
  simp at e0
  obtain ⟨rfl, rfl, rfl, rfl⟩ := e0
  have kp : Kp Fq F w _ := fun i hi hl => ⟨hF i hi, q2.same i hl fun e => hg (e ▸ hF i hi)⟩
  exact ⟨hg, fun k hk => hN k (Nat.le_trans q2.bel.size hk), _, _, _, _, q1, RItems.to h1 kp, RItems.to h2 kp, ROp.to h3 kp, ROp.to h4 kp⟩
theorem ClOk.sm {c : Cl} (h : ClOk c) : c.Sm := by
  have d1 := (chkDoc_ok h.doc).2
  have d2 := (chkDoc_ok h.ndoc).2
  have ho : ∀ s : List Pt, chkOp s = 0 ∨ s = [] → s.length ≤ 100000 ∧ ∀ p ∈ s, p.its.length ≤ 100000 := fun s hs => by
    rcases hs with hs | rfl
    · have k := chkOp_ok hs
      exact ⟨by have := k.len; omega, fun p hp => by have := k.i80 p hp; omega⟩
    · exact ⟨by simp, fun p hp => by simp at hp⟩
  have hs : (chkOp c.sent = 0 ∨ c.sent = []) ∧ (chkOp c.held = 0 ∨ c.held = []) := by
    rcases h.cases with ⟨a, b, _⟩ | ⟨_, b, a, _⟩ | ⟨_, _, a, b, _⟩
    · exact ⟨Or.inr a, Or.inr b⟩
    · exact ⟨Or.inl a.op, Or.inr b⟩
    · exact ⟨Or.inl a.op, Or.inl b.op⟩
  exact ⟨by omega, by omega, (ho _ hs.1).1, (ho _ hs.1).2, (ho _ hs.2).1, (ho _ hs.2).2⟩
end Go.Mh
namespace Go.Proofs.Ytgodceplajkcdaa
open Go.RowKit Go.Mh

abbrev clZero : Obj := .cells #[.int .i64 0, .slice none 0 0, .slice none 0 0, .int .i64 0, .slice none 0 0, .slice none 0 0, .bool false] 87

set_option maxRecDepth 100000 in
set_option maxHeartbeats 4000000 in
theorem clDo_any (F G : Nat → Prop) (v u : Value) (c : Cl) (o : List Pt) (w : World) (h : RCl F w v c) (g : ROp G w u o) :
    Calls Try.prog 62 #[v, u] w fun e w' => ∃ v', e = .returned (.tuple #[v', .bool (doC c o).2.1, .int .i64 (doC c o).2.2]) ∧ RCl (fun _ => True) w' v' (doC c o).1 ∧ Below w.heap.size w w' := by
  have hh := RCl.to h (Kp.lt w)
  have gg := ROp.to g (Kp.lt w)
  clear h g
  obtain ⟨b, n, s, k, rfl, h1, h2, h3, h4⟩ := id hh
  obtain ⟨ba, bc, rfl, _⟩ := RdS.len h1
  obtain ⟨na, nc, rfl, _⟩ := RdS.len h2
  obtain ⟨sa, sc, rfl, _⟩ := RdS.len h3
  obtain ⟨ka, kc, rfl, _⟩ := RdS.len h4
  have H2 := Lib.hid h2
  have H := Lib.hid hh
  have V := Lib.hid gg
  clear h1 h2 h3 h4 hh gg
  obtain ⟨w1, hw1⟩ : ∃ w1, w1 = (w.alloc (.cells #[.int .i64 c.rev, .slice ba c.base.length bc, .slice na c.now.length nc, .int .i64 c.seq, .slice sa c.sent.length sc, .slice ka c.held.length kc, .bool c.joined] 87)).alloc clZero := ⟨_, rfl⟩
  have hb1 : Below w.heap.size w w1 := by rw [hw1]; exact bal (bal (brf w) _) _
  have hG1 := Lib.hid (by rw [hw1]; exact heap_at2 rfl : w1.heap[w.heap.size]? = some (.cells #[.int .i64 c.rev, .slice ba c.base.length bc, .slice na c.now.length nc, .int .i64 c.seq, .slice sa c.sent.length sc, .slice ka c.held.length kc, .bool c.joined] 87 (0, 0)))
  have hG2 := Lib.hid (by rw [hw1]; exact heap_at (by simp) : w1.heap[w.heap.size + 1]? = some clZero)
  have hz1 := lt_of_heap hG1.out
  have hz2 := lt_of_heap hG2.out
  have hres : ∃ r, Hid (doC c o = r) := ⟨_, Lib.hid rfl⟩
  obtain ⟨⟨R1, R2, R3⟩, hres⟩ := hres
  rw [hres.out]
  go_enter Try.func62, Try.ntmps62
  go_upto_region 1 with fail
  rw [← hw1]
  clear hw1
  obtain ⟨x0, x1, x2, x3, x4, x5, x6⟩ := P7.of hG1.out
  go_wp2_with fail
  refine (clCheck_any _ _ c w1 (RCl.to H.out (Kp.below hb1))).mono ?_
  rintro e w2 ⟨rfl, hb2⟩
  have hB2 := hb1.trans (hb2.mono hb1.size)
  have hK1 := Lib.hid ((hb2.block _ hz1).trans hG1.out)
  have hK2 := Lib.hid ((hb2.block _ hz2).trans hG2.out)
  have hz1 := lt_of_heap hK1.out
  have hz2 := lt_of_heap hK2.out
  clear x0 x1 x2 x3 x4 x5 x6 hG1 hG2 hb1 hb2
  obtain ⟨x0, x1, x2, x3, x4, x5, x6⟩ := P7.of hK1.out
  by_cases hck : chkCl c = 0
  · have hok := Lib.hid (ClOk.of hck)
    have hck' := Lib.hid hck
    rw [hck]
    clear hck
    go_wp2_with fail
    refine (opApply_any _ _ _ u c.now o w2 (RItems.to H2.out (Kp.below hB2)) (ROp.to V.out (Kp.below hB2))).mono ?_
    rintro e w3 ⟨r3, rfl, hr3, hb3⟩
    obtain ⟨ra, rc, rfl, _⟩ := RdS.len hr3
    have hr3' := Lib.hid hr3
    have hB3 := hB2.trans (hb3.mono hB2.size)
    have hK3 := Lib.hid ((hb3.block _ hz1).trans hK1.out)
    have hZ3 := Lib.hid ((hb3.block _ hz2).trans hK2.out)
    have hz13 := lt_of_heap hK3.out
    have hz23 := lt_of_heap hZ3.out
    clear x0 x1 x2 x3 x4 x5 x6 hK1 hK2 hb3 hr3
    obtain ⟨x0, x1, x2, x3, x4, x5, x6⟩ := P7.of hK3.out
    by_cases he : (applyP c.now o).2 = 0
    · rw [he]
      have he' := Lib.hid he
      clear he
      go_wp2_with fail
      refine (clCopy_any _ _ c w3 (RCl.to H.out (Kp.below hB3)) hok.out.sm).mono ?_
      rintro e w4 ⟨v4, rfl, hr4, hb4⟩
      obtain ⟨b4, n4, s4, k4, rfl, _⟩ := id hr4
      obtain ⟨p1, p2, p3, p4, p5, p6, p7, p8, rfl, rfl, rfl, rfl⟩ := rcl_shape hr4
      have hK4 := Lib.hid ((hb4.block _ hz13).trans hK3.out)
      have hZ4 := Lib.hid ((hb4.block _ hz23).trans hZ3.out)
      have hB4 := hB3.trans (hb4.mono hB3.size)
      have z34 : w3.heap.size ≤ w4.heap.size := hb4.size
      have hcat := CAt.ofVal (F := fun k => k ≠ w.heap.size ∧ k ≠ w.heap.size + 1) hK4.out hr4 (fun h => h.1 rfl) (fun k hk => by have := lt_of_heap hZ4.out; exact ⟨by omega, by omega⟩) (fun i hi => by rcases hi with hi | hi; exact ⟨by omega, by omega⟩; have := hi.2; exact ⟨by omega, by omega⟩)
      have hd4 := Lib.hid (RItems.to hr3'.out (Kp.below hb4))
      obtain ⟨y0, y1, y2, y3, y4, y5, y6⟩ := P7.of hK4.out
      have hfz : ∀ i, w4.frozen? ⟨w.heap.size, i, none⟩ = false := fun i => Lib.frozen_of_heap hK4.out _
      have hz14 := lt_of_heap hK4.out
      have hz24 := lt_of_heap hZ4.out
      go_upto_region 8 with fail
      refine name_world ?_
      intro w5 hW5
      have hK5 := Lib.hid (by rw [← hW5]; exact (set7z hK4.out _ _ _ _ _ _ _).1 : w5.heap[w.heap.size]? = some (.cells #[.int .i64 c.rev, .slice p1 c.base.length p2, .slice p3 c.now.length p4, .int .i64 c.seq, .slice p5 c.sent.length p6, .slice p7 c.held.length p8, .bool c.joined] 87 (0, 0)))
      have H5 : CAt 87 (fun k => k ≠ w.heap.size ∧ k ≠ w.heap.size + 1) w5 w.heap.size c := by rw [← hW5]; exact hcat.1
      have S5 : Stays w.heap.size w4 w5 := by rw [← hW5]; exact hcat.2
      have hd5 : RItems (fun k => k ≠ w.heap.size ∧ k ≠ w.heap.size + 1) w5 (.slice ra (applyP c.now o).1.length rc) (applyP c.now o).1 := RItems.to hd4.out (fun i hi hl => ⟨⟨by omega, by omega⟩, S5.same i hl (by omega)⟩)
      have H6 := Lib.hid (H5.set2 hd5)
      have S6 : Stays w.heap.size w4 (w5.setCell ⟨w.heap.size, 2, none⟩ (.slice ra (applyP c.now o).1.length rc)) := S5.trans Stays.set
      have hZ6 := Lib.hid ((S6.same _ hz24 (by omega)).trans hZ4.out)
      have hB6 : Below w.heap.size w (w5.setCell ⟨w.heap.size, 2, none⟩ (.slice ra (applyP c.now o).1.length rc)) := hB4.trans S6.bel
      have hV6 := Lib.hid (ROp.to V.out (fun i hi hl => ⟨by have := hi.2; exact ⟨by omega, by omega⟩, (hB6.block i hi.2)⟩) : ROp (fun k => k ≠ w.heap.size ∧ k ≠ w.heap.size + 1) (w5.setCell ⟨w.heap.size, 2, none⟩ (.slice ra (applyP c.now o).1.length rc)) u o)
      have hK6 := Lib.hid (by rw [heap_setCell_same _ w.heap.size 2 _ _ (.slice ra (applyP c.now o).1.length rc) hK5.out]; rfl : (w5.setCell ⟨w.heap.size, 2, none⟩ (.slice ra (applyP c.now o).1.length rc)).heap[w.heap.size]? = some (.cells #[.int .i64 c.rev, .slice p1 c.base.length p2, .slice ra (applyP c.now o).1.length rc, .int .i64 c.seq, .slice p5 c.sent.length p6, .slice p7 c.held.length p8, .bool c.joined] 87 (0, 0)))
      clear hcat hW5 H5 S5 hd5 S6 hd4 hr3' hfz y0 y1 y2 y3 y4 y5 y6 x0 x1 x2 x3 x4 x5 x6
      have hfz : ∀ i, w5.frozen? ⟨w.heap.size, i, none⟩ = false := fun i => Lib.frozen_of_heap hK5.out _
      have hz15 := lt_of_heap hK5.out
      obtain ⟨y0, y1, y2, y3, y4, y5, y6⟩ := P7.of hK5.out
      clear hr4 hB4 hB3 hB2 hK5 hK4 hZ4 hK3 hZ3 hb4
      go_upto_region 12 with fail
      refine name_world ?_
      intro w6 hW6
      rw [hW6] at H6 hZ6 hB6 hV6 hK6
      clear hW6 y0 y1 y2 y3 y4 y5 y6 hfz
      obtain ⟨x0, x1, x2, x3, x4, x5, x6⟩ := P7.of hK6.out
      have hfz : ∀ i, w6.frozen? ⟨w.heap.size, i, none⟩ = false := fun i => Lib.frozen_of_heap hK6.out _
      have hz16 := lt_of_heap hK6.out
      have hoo := Lib.hid (chkOp_ok (Applies.of he'.out).op)
      by_cases hs : c.sent = []
      · have t1 := len0_true hs
        by_cases hq : c.seq = 10000
        · have t2 : (c.seq == 10000) = true := by simpa using hq
          have hr := hres.out
          rw [doC, if_neg (by simpa using hck'.out), if_neg (by simpa using he'.out), if_pos hs, if_pos hq] at hr
          cases hr
          clear hs hq hres
          obtain ⟨y0, y1, y2, y3, y4, y5, y6⟩ := P7.of hZ6.out
          have hfz2 : ∀ i, w6.frozen? ⟨w.heap.size + 1, i, none⟩ = false := fun i => Lib.frozen_of_heap hZ6.out _
          have hzz := lt_of_heap hZ6.out
          go_wp2
          obtain ⟨q1, q2⟩ := set7z hZ6.out (.int .i64 0) (.slice none 0 0) (.slice none 0 0) (.int .i64 0) (.slice none 0 0) (.slice none 0 0) (.bool false)
          generalize hwz : (((((((w6.setCell ⟨w.heap.size + 1, 0, none⟩ (.int .i64 0)).setCell ⟨w.heap.size + 1, 1, none⟩ (.slice none 0 0)).setCell ⟨w.heap.size + 1, 2, none⟩ (.slice none 0 0)).setCell ⟨w.heap.size + 1, 3, none⟩ (.int .i64 0)).setCell ⟨w.heap.size + 1, 4, none⟩ (.slice none 0 0)).setCell ⟨w.heap.size + 1, 5, none⟩ (.slice none 0 0)).setCell ⟨w.heap.size + 1, 6, none⟩ (.bool false)) = wz at *
          obtain ⟨z0, z1, z2, z3, z4, z5, z6⟩ := P7.of q1
          exact bodyPost_ret (v := .tuple #[.agg #[.int .i64 0, .slice none 0 0, .slice none 0 0, .int .i64 0, .slice none 0 0, .slice none 0 0, .bool false], .bool false, .int .i64 2]) (by simp [results, Try.results62, go_sem, z0, z1, z2, z3, z4, z5, z6]) rfl ⟨_, rfl, RCl.zero, hB6.trans (q2.bel.mono (by omega))⟩
        · have t2 : (c.seq == 10000) = false := by simpa using hq
          have hr := hres.out
          rw [doC, if_neg (by simpa using hck'.out), if_neg (by simpa using he'.out), if_pos hs, if_neg hq] at hr
          cases hr
          have hs01 : 0 ≤ c.seq ∧ c.seq ≤ 10000 := ⟨hok.out.s0, hok.out.s1⟩
          have hwr : IntKind.i64.wrap (c.seq + 1) = c.seq + 1 := IntWalk.i64_in _ (by omega)
          clear hs hq hres
          go_wp2_with fail
          refine (opCopy_any _ _ o w6 hV6.out (by have := hoo.out.len; omega) (fun p hp => by have := hoo.out.i80 p hp; omega)).mono ?_
          rintro e w7 ⟨r7, rfl, hr7, hb7⟩
          obtain ⟨xa, xc, rfl, _⟩ := RdS.len hr7
          have hK7 := Lib.hid ((hb7.block _ hz16).trans hK6.out)
          have hz17 := lt_of_heap hK7.out
          have H7 := Lib.hid (H6.out.below hb7)
          have hr7' := Lib.hid (ROp.to hr7 (fun i hi hl => ⟨by rcases hi with hi | hi; exact H6.out.2.1 i hi; exact hi, rfl⟩) : ROp (fun k => k ≠ w.heap.size ∧ k ≠ w.heap.size + 1) w7 (.slice xa o.length xc) o)
          have H8 := Lib.hid ((H7.out.set4 hr7'.out).set3 (c.seq + 1))
          have S8 : Stays w.heap.size w7 ((w7.setCell ⟨w.heap.size, 4, none⟩ (.slice xa o.length xc)).setCell ⟨w.heap.size, 3, none⟩ (.int .i64 (c.seq + 1))) := Stays.set.trans Stays.set
          have hzz6 := lt_of_heap hZ6.out
          have hZ8 := Lib.hid ((S8.same _ (Nat.lt_of_lt_of_le hzz6 hb7.size) (by omega)).trans ((hb7.block _ hzz6).trans hZ6.out))
          have hB8 := (hB6.trans (hb7.mono hB6.size)).trans (S8.bel.mono (Nat.le_refl _))
          clear x0 x1 x2 x3 x4 x5 x6 hfz hr7
          obtain ⟨x0, x1, x2, x3, x4, x5, x6⟩ := P7.of hK7.out
          have hfz : ∀ i, w7.frozen? ⟨w.heap.size, i, none⟩ = false := fun i => Lib.frozen_of_heap hK7.out _
          clear H7 hr7' S8 H6 hZ6 hB6 hV6 hK6 hK7
          go_upto_region 19 with fail
          refine name_world ?_
          intro w8 hW8
          rw [hW8] at H8 hZ8 hB8
          clear hW8 x0 x1 x2 x3 x4 x5 x6 hfz
          obtain ⟨b9, n9, s9, k9, h0, hR⟩ := H8.out.val
          obtain ⟨m1, m2, m3, m4, m5, m6, m7, m8, rfl, rfl, rfl, rfl⟩ := rcl_shape hR
          obtain ⟨y0, y1, y2, y3, y4, y5, y6⟩ := P7.of hZ8.out
          obtain ⟨x0, x1, x2, x3, x4, x5, x6⟩ := P7.of h0
          have hfz2 : ∀ i, w8.frozen? ⟨w.heap.size + 1, i, none⟩ = false := fun i => Lib.frozen_of_heap hZ8.out _
          have hzz := lt_of_heap hZ8.out
          have hR' := Lib.hid hR
          clear hR h0
          go_wp2
          obtain ⟨q1, q2⟩ := set7z hZ8.out (.int .i64 ({ c with now := (applyP c.now o).1, sent := o, seq := c.seq + 1 } : Cl).rev) (.slice m1 ({ c with now := (applyP c.now o).1, sent := o, seq := c.seq + 1 } : Cl).base.length m2) (.slice m3 ({ c with now := (applyP c.now o).1, sent := o, seq := c.seq + 1 } : Cl).now.length m4) (.int .i64 ({ c with now := (applyP c.now o).1, sent := o, seq := c.seq + 1 } : Cl).seq) (.slice m5 ({ c with now := (applyP c.now o).1, sent := o, seq := c.seq + 1 } : Cl).sent.length m6) (.slice m7 ({ c with now := (applyP c.now o).1, sent := o, seq := c.seq + 1 } : Cl).held.length m8) (.bool ({ c with now := (applyP c.now o).1, sent := o, seq := c.seq + 1 } : Cl).joined)
          generalize hwz : (((((((w8.setCell ⟨w.heap.size + 1, 0, none⟩ _).setCell ⟨w.heap.size + 1, 1, none⟩ _).setCell ⟨w.heap.size + 1, 2, none⟩ _).setCell ⟨w.heap.size + 1, 3, none⟩ _).setCell ⟨w.heap.size + 1, 4, none⟩ _).setCell ⟨w.heap.size + 1, 5, none⟩ _).setCell ⟨w.heap.size + 1, 6, none⟩ _) = wz at *
          obtain ⟨z0, z1, z2, z3, z4, z5, z6⟩ := P7.of q1
          exact bodyPost_ret (v := .tuple #[.agg #[.int .i64 ({ c with now := (applyP c.now o).1, sent := o, seq := c.seq + 1 } : Cl).rev, .slice m1 ({ c with now := (applyP c.now o).1, sent := o, seq := c.seq + 1 } : Cl).base.length m2, .slice m3 ({ c with now := (applyP c.now o).1, sent := o, seq := c.seq + 1 } : Cl).now.length m4, .int .i64 ({ c with now := (applyP c.now o).1, sent := o, seq := c.seq + 1 } : Cl).seq, .slice m5 ({ c with now := (applyP c.now o).1, sent := o, seq := c.seq + 1 } : Cl).sent.length m6, .slice m7 ({ c with now := (applyP c.now o).1, sent := o, seq := c.seq + 1 } : Cl).held.length m8, .bool ({ c with now := (applyP c.now o).1, sent := o, seq := c.seq + 1 } : Cl).joined], .bool true, .int .i64 0]) (by simp [results, Try.results62, go_sem, z0, z1, z2, z3, z4, z5, z6]) rfl ⟨_, rfl, RCl.to hR'.out (fun i hi hl => ⟨trivial, q2.same i hl hi.2⟩), hB8.trans (q2.bel.mono (by omega))⟩
      · have t1 := len0_false hs
        by_cases hh : c.held = []
        · have t3 := len0_true hh
          have hr := hres.out
          rw [doC, if_neg (by simpa using hck'.out), if_neg (by simpa using he'.out), if_neg hs, if_pos hh] at hr
          cases hr
          clear hs hh hres
          go_wp2_with fail
          refine (opCopy_any _ _ o w6 hV6.out (by have := hoo.out.len; omega) (fun p hp => by have := hoo.out.i80 p hp; omega)).mono ?_
          rintro e w7 ⟨r7, rfl, hr7, hb7⟩
          obtain ⟨xa, xc, rfl, _⟩ := RdS.len hr7
          have hK7 := Lib.hid ((hb7.block _ hz16).trans hK6.out)
          have hz17 := lt_of_heap hK7.out
          have H7 := Lib.hid (H6.out.below hb7)
          have hr7' := Lib.hid (ROp.to hr7 (fun i hi hl => ⟨by rcases hi with hi | hi; exact H6.out.2.1 i hi; exact hi, rfl⟩) : ROp (fun k => k ≠ w.heap.size ∧ k ≠ w.heap.size + 1) w7 (.slice xa o.length xc) o)
          have H8 := Lib.hid (H7.out.set5 hr7'.out)
          have S8 : Stays w.heap.size w7 (w7.setCell ⟨w.heap.size, 5, none⟩ (.slice xa o.length xc)) := Stays.set
          have hzz6 := lt_of_heap hZ6.out
          have hZ8 := Lib.hid ((S8.same _ (Nat.lt_of_lt_of_le hzz6 hb7.size) (by omega)).trans ((hb7.block _ hzz6).trans hZ6.out))
          have hB8 := (hB6.trans (hb7.mono hB6.size)).trans (S8.bel.mono (Nat.le_refl _))
          clear x0 x1 x2 x3 x4 x5 x6 hfz hr7
          obtain ⟨x0, x1, x2, x3, x4, x5, x6⟩ := P7.of hK7.out
          have hfz : ∀ i, w7.frozen? ⟨w.heap.size, i, none⟩ = false := fun i => Lib.frozen_of_heap hK7.out _
          clear H7 hr7' S8 H6 hZ6 hB6 hV6 hK6 hK7
          go_upto_region 19 with fail
          refine name_world ?_
          intro w8 hW8
          rw [hW8] at H8 hZ8 hB8
          clear hW8 x0 x1 x2 x3 x4 x5 x6 hfz
          obtain ⟨b9, n9, s9, k9, h0, hR⟩ := H8.out.val
          obtain ⟨m1, m2, m3, m4, m5, m6, m7, m8, rfl, rfl, rfl, rfl⟩ := rcl_shape hR
          obtain ⟨y0, y1, y2, y3, y4, y5, y6⟩ := P7.of hZ8.out
          obtain ⟨x0, x1, x2, x3, x4, x5, x6⟩ := P7.of h0
          have hfz2 : ∀ i, w8.frozen? ⟨w.heap.size + 1, i, none⟩ = false := fun i => Lib.frozen_of_heap hZ8.out _
          have hzz := lt_of_heap hZ8.out
          have hR' := Lib.hid hR
          clear hR h0
          go_wp2
          obtain ⟨q1, q2⟩ := set7z hZ8.out (.int .i64 ({ c with now := (applyP c.now o).1, held := o } : Cl).rev) (.slice m1 ({ c with now := (applyP c.now o).1, held := o } : Cl).base.length m2) (.slice m3 ({ c with now := (applyP c.now o).1, held := o } : Cl).now.length m4) (.int .i64 ({ c with now := (applyP c.now o).1, held := o } : Cl).seq) (.slice m5 ({ c with now := (applyP c.now o).1, held := o } : Cl).sent.length m6) (.slice m7 ({ c with now := (applyP c.now o).1, held := o } : Cl).held.length m8) (.bool ({ c with now := (applyP c.now o).1, held := o } : Cl).joined)
          generalize hwz : (((((((w8.setCell ⟨w.heap.size + 1, 0, none⟩ _).setCell ⟨w.heap.size + 1, 1, none⟩ _).setCell ⟨w.heap.size + 1, 2, none⟩ _).setCell ⟨w.heap.size + 1, 3, none⟩ _).setCell ⟨w.heap.size + 1, 4, none⟩ _).setCell ⟨w.heap.size + 1, 5, none⟩ _).setCell ⟨w.heap.size + 1, 6, none⟩ _) = wz at *
          obtain ⟨z0, z1, z2, z3, z4, z5, z6⟩ := P7.of q1
          exact bodyPost_ret (v := .tuple #[.agg #[.int .i64 ({ c with now := (applyP c.now o).1, held := o } : Cl).rev, .slice m1 ({ c with now := (applyP c.now o).1, held := o } : Cl).base.length m2, .slice m3 ({ c with now := (applyP c.now o).1, held := o } : Cl).now.length m4, .int .i64 ({ c with now := (applyP c.now o).1, held := o } : Cl).seq, .slice m5 ({ c with now := (applyP c.now o).1, held := o } : Cl).sent.length m6, .slice m7 ({ c with now := (applyP c.now o).1, held := o } : Cl).held.length m8, .bool ({ c with now := (applyP c.now o).1, held := o } : Cl).joined], .bool false, .int .i64 0]) (by simp [results, Try.results62, go_sem, z0, z1, z2, z3, z4, z5, z6]) rfl ⟨_, rfl, RCl.to hR'.out (fun i hi hl => ⟨trivial, q2.same i hl hi.2⟩), hB8.trans (q2.bel.mono (by omega))⟩
        · have t3 := len0_false hh
          obtain ⟨_, _, b6, n6, s6, k6, g0, _, _, _, g4⟩ := H6.out
          rw [hK6.out] at g0
          simp at g0
          obtain ⟨rfl, rfl, rfl, rfl⟩ := g0
          have C := Lib.hid (otJoin_any _ _ _ u c.held o w6 g4 hV6.out)
          clear g4
          by_cases hj : (joinP c.held o).2 = 0
          · have hr := hres.out
            rw [doC, if_neg (by simpa using hck'.out), if_neg (by simpa using he'.out), if_neg hs, if_neg hh, if_neg (by simpa using hj)] at hr
            cases hr
            rw [hj] at C
            clear hs hh hres hj
            go_wp2_with fail
            refine C.out.mono ?_
            rintro e w7 ⟨r7, rfl, hr7, hb7⟩
            obtain ⟨xa, xc, rfl, _⟩ := RdS.len hr7
            have hK7 := Lib.hid ((hb7.block _ hz16).trans hK6.out)
            have hz17 := lt_of_heap hK7.out
            have H7 := Lib.hid (H6.out.below hb7)
            have hzz6 := lt_of_heap hZ6.out
            have hr7' := Lib.hid (ROp.to hr7 (fun i hi hl => ⟨⟨(fr_ne hK7.out (by decide) hz16 i hi hl).1, (fr_ne ((hb7.block _ hzz6).trans hZ6.out) (by decide) hzz6 i hi hl).1⟩, rfl⟩) : ROp (fun k => k ≠ w.heap.size ∧ k ≠ w.heap.size + 1) w7 (.slice xa (joinP c.held o).1.length xc) (joinP c.held o).1)
            have H8 := Lib.hid (H7.out.set5 hr7'.out)
            have S8 : Stays w.heap.size w7 (w7.setCell ⟨w.heap.size, 5, none⟩ (.slice xa (joinP c.held o).1.length xc)) := Stays.set
            have hZ8 := Lib.hid ((S8.same _ (Nat.lt_of_lt_of_le hzz6 hb7.size) (by omega)).trans ((hb7.block _ hzz6).trans hZ6.out))
            have hB8 := (hB6.trans (hb7.mono hB6.size)).trans (S8.bel.mono (Nat.le_refl _))
            clear x0 x1 x2 x3 x4 x5 x6 hfz hr7
            obtain ⟨x0, x1, x2, x3, x4, x5, x6⟩ := P7.of hK7.out
            have hfz : ∀ i, w7.frozen? ⟨w.heap.size, i, none⟩ = false := fun i => Lib.frozen_of_heap hK7.out _
            clear H7 hr7' S8 H6 hZ6 hB6 hV6 hK6 hK7
            go_upto_region 19 with fail
            refine name_world ?_
            intro w8 hW8
            rw [hW8] at H8 hZ8 hB8
            clear hW8 x0 x1 x2 x3 x4 x5 x6 hfz
            obtain ⟨b9, n9, s9, k9, h0, hR⟩ := H8.out.val
            obtain ⟨m1, m2, m3, m4, m5, m6, m7, m8, rfl, rfl, rfl, rfl⟩ := rcl_shape hR
            obtain ⟨y0, y1, y2, y3, y4, y5, y6⟩ := P7.of hZ8.out
            obtain ⟨x0, x1, x2, x3, x4, x5, x6⟩ := P7.of h0
            have hfz2 : ∀ i, w8.frozen? ⟨w.heap.size + 1, i, none⟩ = false := fun i => Lib.frozen_of_heap hZ8.out _
            have hzz := lt_of_heap hZ8.out
            have hR' := Lib.hid hR
            clear hR h0
            go_wp2
            obtain ⟨q1, q2⟩ := set7z hZ8.out (.int .i64 ({ c with now := (applyP c.now o).1, held := (joinP c.held o).1 } : Cl).rev) (.slice m1 ({ c with now := (applyP c.now o).1, held := (joinP c.held o).1 } : Cl).base.length m2) (.slice m3 ({ c with now := (applyP c.now o).1, held := (joinP c.held o).1 } : Cl).now.length m4) (.int .i64 ({ c with now := (applyP c.now o).1, held := (joinP c.held o).1 } : Cl).seq) (.slice m5 ({ c with now := (applyP c.now o).1, held := (joinP c.held o).1 } : Cl).sent.length m6) (.slice m7 ({ c with now := (applyP c.now o).1, held := (joinP c.held o).1 } : Cl).held.length m8) (.bool ({ c with now := (applyP c.now o).1, held := (joinP c.held o).1 } : Cl).joined)
            generalize hwz : (((((((w8.setCell ⟨w.heap.size + 1, 0, none⟩ _).setCell ⟨w.heap.size + 1, 1, none⟩ _).setCell ⟨w.heap.size + 1, 2, none⟩ _).setCell ⟨w.heap.size + 1, 3, none⟩ _).setCell ⟨w.heap.size + 1, 4, none⟩ _).setCell ⟨w.heap.size + 1, 5, none⟩ _).setCell ⟨w.heap.size + 1, 6, none⟩ _) = wz at *
            obtain ⟨z0, z1, z2, z3, z4, z5, z6⟩ := P7.of q1
            exact bodyPost_ret (v := .tuple #[.agg #[.int .i64 ({ c with now := (applyP c.now o).1, held := (joinP c.held o).1 } : Cl).rev, .slice m1 ({ c with now := (applyP c.now o).1, held := (joinP c.held o).1 } : Cl).base.length m2, .slice m3 ({ c with now := (applyP c.now o).1, held := (joinP c.held o).1 } : Cl).now.length m4, .int .i64 ({ c with now := (applyP c.now o).1, held := (joinP c.held o).1 } : Cl).seq, .slice m5 ({ c with now := (applyP c.now o).1, held := (joinP c.held o).1 } : Cl).sent.length m6, .slice m7 ({ c with now := (applyP c.now o).1, held := (joinP c.held o).1 } : Cl).held.length m8, .bool ({ c with now := (applyP c.now o).1, held := (joinP c.held o).1 } : Cl).joined], .bool false, .int .i64 0]) (by simp [results, Try.results62, go_sem, z0, z1, z2, z3, z4, z5, z6]) rfl ⟨_, rfl, RCl.to hR'.out (fun i hi hl => ⟨trivial, q2.same i hl hi.2⟩), hB8.trans (q2.bel.mono (by omega))⟩
          · have hr := hres.out
            rw [doC, if_neg (by simpa using hck'.out), if_neg (by simpa using he'.out), if_neg hs, if_neg hh, if_pos hj] at hr
            cases hr
            have hj' : ((joinP c.held o).2 != 0) = true := by simpa using hj
            clear hs hh hres hj
            go_wp2_with fail
            refine C.out.mono ?_
            rintro e w7 ⟨r7, rfl, hr7, hb7⟩
            obtain ⟨xa, xc, rfl, _⟩ := RdS.len hr7
            have hK7 := Lib.hid ((hb7.block _ hz16).trans hK6.out)
            have hz17 := lt_of_heap hK7.out
            have S8 : Stays w.heap.size w7 (w7.setCell ⟨w.heap.size, 5, none⟩ (.slice xa (joinP c.held o).1.length xc)) := Stays.set
            have hzz6 := lt_of_heap hZ6.out
            have hZ8 := Lib.hid ((S8.same _ (Nat.lt_of_lt_of_le hzz6 hb7.size) (by omega)).trans ((hb7.block _ hzz6).trans hZ6.out))
            have hB8 := (hB6.trans (hb7.mono hB6.size)).trans (S8.bel.mono (Nat.le_refl _))
            clear x0 x1 x2 x3 x4 x5 x6 hfz hr7
            obtain ⟨x0, x1, x2, x3, x4, x5, x6⟩ := P7.of hK7.out
            have hfz : ∀ i, w7.frozen? ⟨w.heap.size, i, none⟩ = false := fun i => Lib.frozen_of_heap hK7.out _
            clear S8 H6 hZ6 hB6 hV6 hK6 hK7
            go_upto_region 11 with fail
            refine name_world ?_
            intro w8 hW8
            rw [hW8] at hZ8 hB8
            clear hW8 x0 x1 x2 x3 x4 x5 x6 hfz
            obtain ⟨y0, y1, y2, y3, y4, y5, y6⟩ := P7.of hZ8.out
            have hfz2 : ∀ i, w8.frozen? ⟨w.heap.size + 1, i, none⟩ = false := fun i => Lib.frozen_of_heap hZ8.out _
            have hzz := lt_of_heap hZ8.out
            go_wp2
            obtain ⟨q1, q2⟩ := set7z hZ8.out (.int .i64 0) (.slice none 0 0) (.slice none 0 0) (.int .i64 0) (.slice none 0 0) (.slice none 0 0) (.bool false)
            generalize hwz : (((((((w8.setCell ⟨w.heap.size + 1, 0, none⟩ (.int .i64 0)).setCell ⟨w.heap.size + 1, 1, none⟩ (.slice none 0 0)).setCell ⟨w.heap.size + 1, 2, none⟩ (.slice none 0 0)).setCell ⟨w.heap.size + 1, 3, none⟩ (.int .i64 0)).setCell ⟨w.heap.size + 1, 4, none⟩ (.slice none 0 0)).setCell ⟨w.heap.size + 1, 5, none⟩ (.slice none 0 0)).setCell ⟨w.heap.size + 1, 6, none⟩ (.bool false)) = wz at *
            obtain ⟨z0, z1, z2, z3, z4, z5, z6⟩ := P7.of q1
            exact bodyPost_ret (v := .tuple #[.agg #[.int .i64 0, .slice none 0 0, .slice none 0 0, .int .i64 0, .slice none 0 0, .slice none 0 0, .bool false], .bool false, .int .i64 (joinP c.held o).2]) (by simp [results, Try.results62, go_sem, z0, z1, z2, z3, z4, z5, z6]) rfl ⟨_, rfl, RCl.zero, hB8.trans (q2.bel.mono (by omega))⟩
    · have hr := hres.out
      rw [doC, if_neg (by simpa using hck'.out), if_pos he] at hr
      cases hr
      have he' : ((applyP c.now o).2 != 0) = true := by simpa using he
      clear he hres
      obtain ⟨y0, y1, y2, y3, y4, y5, y6⟩ := P7.of hZ3.out
      have hfz : ∀ i, w3.frozen? ⟨w.heap.size + 1, i, none⟩ = false := fun i => Lib.frozen_of_heap hZ3.out _
      go_wp2
      obtain ⟨q1, q2⟩ := set7z hZ3.out (.int .i64 0) (.slice none 0 0) (.slice none 0 0) (.int .i64 0) (.slice none 0 0) (.slice none 0 0) (.bool false)
      generalize hwz : (((((((w3.setCell ⟨w.heap.size + 1, 0, none⟩ (.int .i64 0)).setCell ⟨w.heap.size + 1, 1, none⟩ (.slice none 0 0)).setCell ⟨w.heap.size + 1, 2, none⟩ (.slice none 0 0)).setCell ⟨w.heap.size + 1, 3, none⟩ (.int .i64 0)).setCell ⟨w.heap.size + 1, 4, none⟩ (.slice none 0 0)).setCell ⟨w.heap.size + 1, 5, none⟩ (.slice none 0 0)).setCell ⟨w.heap.size + 1, 6, none⟩ (.bool false)) = wz at *
      obtain ⟨z0, z1, z2, z3, z4, z5, z6⟩ := P7.of q1
      exact bodyPost_ret (v := .tuple #[.agg #[.int .i64 0, .slice none 0 0, .slice none 0 0, .int .i64 0, .slice none 0 0, .slice none 0 0, .bool false], .bool false, .int .i64 (applyP c.now o).2]) (by simp [results, Try.results62, go_sem, z0, z1, z2, z3, z4, z5, z6]) rfl ⟨_, rfl, RCl.zero, hB3.trans (q2.bel.mono (by omega))⟩
  · have hr := hres.out
    rw [doC, if_pos hck] at hr
    cases hr
    have hck' : (chkCl c != 0) = true := by simpa using hck
    clear hck hres
    obtain ⟨y0, y1, y2, y3, y4, y5, y6⟩ := P7.of hK2.out
    have hfz : ∀ i, w2.frozen? ⟨w.heap.size + 1, i, none⟩ = false := fun i => Lib.frozen_of_heap hK2.out _
    go_wp2
    obtain ⟨q1, q2⟩ := set7z hK2.out (.int .i64 0) (.slice none 0 0) (.slice none 0 0) (.int .i64 0) (.slice none 0 0) (.slice none 0 0) (.bool false)
    generalize hwz : (((((((w2.setCell ⟨w.heap.size + 1, 0, none⟩ (.int .i64 0)).setCell ⟨w.heap.size + 1, 1, none⟩ (.slice none 0 0)).setCell ⟨w.heap.size + 1, 2, none⟩ (.slice none 0 0)).setCell ⟨w.heap.size + 1, 3, none⟩ (.int .i64 0)).setCell ⟨w.heap.size + 1, 4, none⟩ (.slice none 0 0)).setCell ⟨w.heap.size + 1, 5, none⟩ (.slice none 0 0)).setCell ⟨w.heap.size + 1, 6, none⟩ (.bool false)) = wz at *
    obtain ⟨z0, z1, z2, z3, z4, z5, z6⟩ := P7.of q1
    exact bodyPost_ret (v := .tuple #[.agg #[.int .i64 0, .slice none 0 0, .slice none 0 0, .int .i64 0, .slice none 0 0, .slice none 0 0, .bool false], .bool false, .int .i64 (chkCl c)]) (by simp [results, Try.results62, go_sem, z0, z1, z2, z3, z4, z5, z6]) rfl ⟨_, rfl, RCl.zero, hB2.trans (q2.bel.mono (by omega))⟩
end Go.Proofs.Ytgodceplajkcdaa
