/- Package server: Take. -/
import Derived.Test.YtckdlhgeelhnmaaGreatSvG
namespace Go.Mh
open Go.RowKit
theorem SrvOk.lens {s : Srv} (h : SrvOk s) : s.first.length ≤ 100000 ∧ s.now.length ≤ 100000 ∧ s.log.length ≤ 60 ∧ ∀ x ∈ s.log, x.o.length ≤ 100000 ∧ ∀ p ∈ x.o, p.its.length ≤ 100000 := by
  refine ⟨by have := (chkDoc_ok h.doc).2; omega, by have := (chkDoc_ok (foldG_doc h.fold h.doc)).2; omega, h.len, fun x hx => ?_⟩
  have he := h.ens x hx
  unfold chkEn at he
  split at he; · simp at he
  split at he; · simp at he
  have hk := chkOp_ok he
  exact ⟨by have := hk.len; omega, fun p hp => by have := hk.i80 p hp; omega⟩
theorem RLog.ne {F : Nat → Prop} {w : World} {v : Value} {L : List En} {g : Nat} (h : RLog F w v L) (hg : NoIt w g) : RLog (fun k => F k ∧ k ≠ g) w v L := by
  obtain ⟨a, cap, e, h1, h2, h3, h4⟩ := h
  refine ⟨a, cap, e, h1, h2, h3, fun i x hx => ?_⟩
  obtain ⟨b, o, cs, e1, hF, hl, hat, sv, hR, hI⟩ := h4 i x hx
  refine ⟨b, o, cs, e1, ⟨hF, fun hb => ?_⟩, hl, hat, sv, hR, ROp.ne hI hg⟩
  subst hb
  subst hR
  exact hg.p _ _ _ (hat 0 _ rfl) (hat 1 _ rfl)
theorem RSrv.ne {F : Nat → Prop} {w : World} {v : Value} {s : Srv} {g : Nat} (h : RSrv F w v s) (hg : NoIt w g) : RSrv (fun k => F k ∧ k ≠ g) w v s := by
  obtain ⟨a, l, n, e, h1, h2, h3⟩ := h
  exact ⟨a, l, n, e, RItems.ne h1 hg, RLog.ne h2 hg, RItems.ne h3 hg⟩
theorem OwnS.log {B e : Nat} {F : Nat → Prop} {w : World} {v : Value} {L : List En} (h : OwnS B e 3 (REn F) w v L) : RLog (fun _ => True) w v L :=
  RdS.to h.rd (by decide) (fun k _ _ => ⟨trivial, rfl⟩) (fun cs y _ r => REn.to r (Kp.weak w fun _ _ => trivial))
end Go.Mh
namespace Go.Proofs.YtckdlhgeelhnmaaGreat
open Go.RowKit Go.Mh

theorem rsrv_shape {F : Nat → Prop} {w : World} {a l n : Value} {s : Srv} (h : RSrv F w (.agg #[a, l, n]) s) : ∃ aa ac la lc na nc, a = .slice aa s.first.length ac ∧ l = .slice la s.log.length lc ∧ n = .slice na s.now.length nc := by
  obtain ⟨_, _, _, e, h1, h2, h3⟩ := h
  simp at e
  obtain ⟨rfl, rfl, rfl⟩ := e
  obtain ⟨aa, ac, rfl, _⟩ := RdS.len h1
  obtain ⟨la, lc, rfl, _⟩ := RdS.len h2
  obtain ⟨na, nc, rfl, _⟩ := RdS.len h3
  exact ⟨_, _, _, _, _, _, rfl, rfl, rfl⟩

set_option maxRecDepth 100000 in
set_option maxHeartbeats 4000000 in
theorem svTake_any (F G : Nat → Prop) (v ov : Value) (s : Srv) (rev : Int) (x : En) (w : World) (h : RSrv F w v s) (g : ROp G w ov x.o) :
    Calls Tryz.prog 10 #[v, .int .i64 rev, .agg #[.int .i64 x.client, .int .i64 x.seq, ov]] w fun e w' => ∃ v', e = .returned (.tuple #[v', .int .i64 (takeP s rev x).2]) ∧ RSrv (fun _ => True) w' v' (takeP s rev x).1 ∧ Below w.heap.size w w' := by
  have g := ROp.to g (Kp.lt w)
  obtain ⟨a, l, n, rfl, _⟩ := id h
  obtain ⟨aa, ac, la, lc, na, nc, rfl, rfl, rfl⟩ := rsrv_shape h
  obtain ⟨oa, oc, rfl, _⟩ := RdS.len g
  obtain ⟨w1, hw1⟩ : ∃ w1, w1 = ((w.alloc (.cells #[.slice aa s.first.length ac, .slice la s.log.length lc, .slice na s.now.length nc] 37)).alloc (.cells #[.int .i64 x.client, .int .i64 x.seq, .slice oa x.o.length oc] 41)).alloc svZero := ⟨_, rfl⟩
  have hb1 : Below w.heap.size w w1 := by rw [hw1]; exact bal (bal (bal (brf w) _) _) _
  have hG := Lib.hid (by rw [hw1]; exact ((brf _).alloc (Nat.le_refl _) _ |>.block _ (by simp; omega)).trans (heap_at2 rfl) : w1.heap[w.heap.size]? = some (.cells #[.slice aa s.first.length ac, .slice la s.log.length lc, .slice na s.now.length nc] 37 (0, 0)))
  have hX := Lib.hid (by rw [hw1]; exact heap_at2 (by simp) : w1.heap[w.heap.size + 1]? = some (.cells #[.int .i64 x.client, .int .i64 x.seq, .slice oa x.o.length oc] 41 (0, 0)))
  have hR := Lib.hid (by rw [hw1]; exact heap_at (by simp) : w1.heap[w.heap.size + 2]? = some svZero)
  have hg0 := lt_of_heap hG.out
  have hg1 := lt_of_heap hX.out
  have hz2 := lt_of_heap hR.out
  have HV := Lib.hid (RSrv.to h (Kp.below hb1))
  have HO := Lib.hid (ROp.to g (Kp.below hb1))
  have hres : ∃ r, Hid (takeP s rev x = r) := ⟨_, Lib.hid rfl⟩
  obtain ⟨⟨R1, R2⟩, hres⟩ := hres
  rw [hres.out]
  have hB1 := Lib.hid hb1
  clear h g hb1
  go_enter Tryz.func10, Tryz.ntmps10
  go_upto_region 1 with fail
  rw [← hw1]
  clear hw1
  obtain ⟨x0, x1, x2⟩ := P3.of hG.out
  go_wp2_with fail
  refine (svCheck_any _ _ s w1 HV.out).mono ?_
  rintro e w2 ⟨rfl, B2⟩
  clear x0 x1 x2
  by_cases c1 : chkSrv s = 0
  · have hr := hres.out
    rw [takeP, if_neg (by simpa using c1)] at hr
    have hok := Lib.hid (SrvOk.of c1)
    rw [c1]
    clear c1 hres
    have X := Lib.hid ((B2.block _ hg1).trans hX.out)
    obtain ⟨e0, e1, e2⟩ := P3.of X.out
    go_wp2_with fail
    refine (svEntry_any _ _ x w2 (ROp.to HO.out (Kp.below B2))).mono ?_
    rintro e w3 ⟨rfl, hb3⟩
    have B3 := btr B2 hb3
    clear hb3 X e0 e1 e2
    by_cases c2 : chkEn x = 0
    · rw [if_neg (by simpa using c2)] at hr
      have hres := Lib.hid hr
      rw [c2]
      clear hr c2
      have G := Lib.hid ((B3.block _ hg0).trans hG.out)
      obtain ⟨x0, x1, x2⟩ := P3.of G.out
      obtain ⟨l1, l2, l3, l4⟩ := hok.out.lens
      have C := Lib.hid (svCopy_any _ _ s w3 (RSrv.to HV.out (Kp.below B3)) l1 l2 (by omega) l4)
      have l60 := Lib.hid l3
      clear l1 l2 l3 l4 B2
      go_wp2_with fail
      refine C.out.mono ?_
      rintro e w4 ⟨a', l', n', rfl, ra, rl, rn, hb4⟩
      have B4 := btr B3 hb4
      obtain ⟨ba, bc, rfl, _⟩ := RdS.len ra
      obtain ⟨ma, mc, rfl, _⟩ := RdS.len rl.rd
      obtain ⟨pa, pc, rfl, _⟩ := RdS.len rn
      clear C x0 x1 x2 G
      have z3 := B3.size
      have z4 := hb4.size
      have G := Lib.hid ((B4.block _ hg0).trans hG.out)
      have Y4 := Lib.hid ((B4.block _ hz2).trans hR.out)
      have how := fun k (hk : (Value.slice ma s.log.length mc).ownBlock = some k) => (rl.own_lt hk).1
      have ng := NoIt.of3 ⟨_, _, _, rfl⟩ ⟨_, _, _, rfl⟩ ⟨_, _, _, rfl⟩ G.out
      have ny := NoIt.of3 ⟨_, _, _, rfl⟩ ⟨_, _, _, rfl⟩ ⟨_, _, _, rfl⟩ Y4.out
      have RA := Lib.hid (RItems.ne (RItems.ne ra ng) ny)
      have RN := Lib.hid (RItems.ne (RItems.ne rn ng) ny)
      have RL := Lib.hid (OwnS.to rl (fun _ _ _ => rfl) (fun cs y _ r => REn.ne (REn.ne r ng) ny))
      have hfz : ∀ i, w4.frozen? ⟨w.heap.size, i, none⟩ = false := fun i => Lib.frozen_of_heap G.out _
      have hzz := lt_of_heap G.out
      obtain ⟨x0, x1, x2⟩ := P3.of G.out
      clear ra rl rn
      go_upto_region 8 with fail
      have q12 := set012 G.out (.slice ba s.first.length bc) (.slice ma s.log.length mc) (.slice pa s.now.length pc)
      generalize hw5 : (((w4.setCell ⟨w.heap.size, 0, none⟩ _).setCell ⟨w.heap.size, 1, none⟩ _).setCell ⟨w.heap.size, 2, none⟩ _) = w5 at *
      clear hw5 hfz hzz x0 x1 x2 G
      obtain ⟨q1, q2⟩ := q12
      have G5 := Lib.hid q1
      have B5 : Below w.heap.size w w5 := (btr hB1.out B4).trans q2.bel
      have k5 : ∀ k, k < w4.heap.size → k ≠ w.heap.size → w5.heap[k]? = w4.heap[k]? := fun k h1 h2 => q2.same k h1 h2
      have z5 := q2.bel.size
      have X5 := Lib.hid ((k5 _ (Nat.lt_of_lt_of_le hg1 B4.size) (by omega)).trans ((B4.block _ hg1).trans hX.out))
      have Y5 := Lib.hid ((k5 _ (Nat.lt_of_lt_of_le hz2 B4.size) (by omega)).trans Y4.out)
      have RA5 := Lib.hid (RItems.to RA.out (fun k hk hl => ⟨⟨hk.1.1, hk.2⟩, k5 k hl hk.1.2⟩) : RItems (fun k => (Value.slice ma s.log.length mc).ownBlock ≠ some k ∧ k ≠ w.heap.size + 2) w5 _ s.first)
      have RN5 := Lib.hid (RItems.to RN.out (fun k hk hl => ⟨⟨hk.1.1, hk.2⟩, k5 k hl hk.1.2⟩) : RItems (fun k => (Value.slice ma s.log.length mc).ownBlock ≠ some k ∧ k ≠ w.heap.size + 2) w5 _ s.now)
      have RL5 := Lib.hid (OwnS.to RL.out (fun k hk hl => k5 k hl (fun he => by have := how k hk; omega)) (fun cs y _ r => REn.to r (fun k hk hl => ⟨⟨hk.1.1, hk.2⟩, k5 k hl hk.1.2⟩)) : OwnS w3.heap.size 41 3 (REn (fun k => (Value.slice ma s.log.length mc).ownBlock ≠ some k ∧ k ≠ w.heap.size + 2)) w5 _ s.log)
      have HO5 := Lib.hid (ROp.to HO.out (fun k hk hl => ⟨by have := hk.2; omega, (k5 k (Nat.lt_of_lt_of_le hl B4.size) (by have := hk.2; omega)).trans (B4.block k hl)⟩) : ROp (· < w3.heap.size) w5 _ x.o)
      have zw := hB1.out.size
      have hw35 : w3.heap.size ≤ w5.heap.size := by omega
      clear RA RN RL q1 q2 how ng ny Y4 k5 B4 hb4 B3
      obtain ⟨x0, x1, x2⟩ := P3.of G5.out
      obtain ⟨e0, e1, e2⟩ := P3.of X5.out
      have SV : Hid (RSrv (fun _ => True) w5 (.agg #[.slice ba s.first.length bc, .slice ma s.log.length mc, .slice pa s.now.length pc]) s) := Lib.hid ⟨_, _, _, rfl, RItems.to RA5.out (Kp.weak w5 fun _ _ => trivial), RL5.out.log, RItems.to RN5.out (Kp.weak w5 fun _ _ => trivial)⟩
      have C := Lib.hid (svHas_any _ _ s x.client x.seq w5 SV.out)
      by_cases c3 : hasP s.log x.client x.seq = true
      · have hr := hres.out
        rw [if_pos c3] at hr
        cases hr
        rw [c3] at C
        clear c3 hres
        go_wp2_with fail
        refine C.out.mono ?_
        rintro e w6 ⟨rfl, hb6⟩
        have g5 := lt_of_heap G5.out
        have G := Lib.hid ((hb6.block _ g5).trans G5.out)
        have Y := Lib.hid ((hb6.block _ (lt_of_heap Y5.out)).trans Y5.out)
        clear x0 x1 x2 e0 e1 e2 C
        obtain ⟨x0, x1, x2⟩ := P3.of G.out
        obtain ⟨y0, y1, y2⟩ := P3.of Y.out
        have hfz : ∀ i, w6.frozen? ⟨w.heap.size + 2, i, none⟩ = false := fun i => Lib.frozen_of_heap Y.out _
        have hzz := lt_of_heap Y.out
        have SV6 := Lib.hid (RSrv.ne (RSrv.to SV.out (Kp.below hb6)) (NoIt.of3 ⟨_, _, _, rfl⟩ ⟨_, _, _, rfl⟩ ⟨_, _, _, rfl⟩ Y.out))
        go_wp2
        obtain ⟨q1, q2⟩ := set012 Y.out (.slice ba s.first.length bc) (.slice ma s.log.length mc) (.slice pa s.now.length pc)
        generalize hwz : (((w6.setCell ⟨w.heap.size + 2, 0, none⟩ _).setCell ⟨w.heap.size + 2, 1, none⟩ _).setCell ⟨w.heap.size + 2, 2, none⟩ _) = wz at *
        obtain ⟨z0, z1, z2⟩ := P3.of q1
        exact bodyPost_ret (v := .tuple #[.agg #[.slice ba s.first.length bc, .slice ma s.log.length mc, .slice pa s.now.length pc], .int .i64 0]) (by simp [results, Tryz.results10, go_sem, z0, z1, z2]) rfl ⟨_, rfl, RSrv.to SV6.out (fun k hk hl => ⟨trivial, q2.same k hl hk.2⟩), (btr B5 hb6).trans (q2.bel.mono (by omega))⟩
      · have hr := hres.out
        rw [if_neg c3] at hr
        have c3' : hasP s.log x.client x.seq = false := by simpa using c3
        rw [c3'] at C
        have hres2 := Lib.hid hr
        clear c3 c3' hres hr
        go_wp2_with fail
        refine C.out.mono ?_
        rintro e w6 ⟨rfl, hb6⟩
        have G := Lib.hid ((hb6.block _ (lt_of_heap G5.out)).trans G5.out)
        have X := Lib.hid ((hb6.block _ (lt_of_heap X5.out)).trans X5.out)
        clear x0 x1 x2 e0 e1 e2 C
        obtain ⟨x0, x1, x2⟩ := P3.of G.out
        obtain ⟨e0, e1, e2⟩ := P3.of X.out
        have C := Lib.hid (svTakeQ_any w3.heap.size _ _ _ _ s rev x w6 (Nat.le_trans hw35 hb6.size) (RItems.to RA5.out (fun k hk hl => ⟨hk.1, hb6.block k hl⟩)) (OwnS.to RL5.out (fun k _ hl => hb6.block k hl) (fun cs y _ r => REn.to r (fun k hk hl => ⟨hk.1, hb6.block k hl⟩))) (RItems.to RN5.out (fun k hk hl => ⟨hk.1, hb6.block k hl⟩)) (ROp.to HO5.out (Kp.below hb6)) l60.out)
        rw [hres2.out] at C
        clear hres2
        go_wp2_with fail
        refine C.out.mono ?_
        rintro e w7 ⟨v7, rfl, hr7, hb7⟩
        obtain ⟨a7, l7, n7, rfl, _⟩ := id hr7
        obtain ⟨aa7, ac7, la7, lc7, na7, nc7, rfl, rfl, rfl⟩ := rsrv_shape hr7
        have y5 := lt_of_heap Y5.out
        have Y := Lib.hid ((hb7.block _ (show w.heap.size + 2 < w3.heap.size by omega)).trans ((hb6.block _ y5).trans Y5.out))
        have hfz : ∀ i, w7.frozen? ⟨w.heap.size + 2, i, none⟩ = false := fun i => Lib.frozen_of_heap Y.out _
        have hzz := lt_of_heap Y.out
        have SV7 := Lib.hid (RSrv.ne hr7 (NoIt.of3 ⟨_, _, _, rfl⟩ ⟨_, _, _, rfl⟩ ⟨_, _, _, rfl⟩ Y.out))
        clear x0 x1 x2 e0 e1 e2 C hr7
        obtain ⟨y0, y1, y2⟩ := P3.of Y.out
        go_wp2
        obtain ⟨q1, q2⟩ := set012 Y.out (.slice aa7 R1.first.length ac7) (.slice la7 R1.log.length lc7) (.slice na7 R1.now.length nc7)
        generalize hwz : (((w7.setCell ⟨w.heap.size + 2, 0, none⟩ _).setCell ⟨w.heap.size + 2, 1, none⟩ _).setCell ⟨w.heap.size + 2, 2, none⟩ _) = wz at *
        obtain ⟨z0, z1, z2⟩ := P3.of q1
        exact bodyPost_ret (v := .tuple #[.agg #[.slice aa7 R1.first.length ac7, .slice la7 R1.log.length lc7, .slice na7 R1.now.length nc7], .int .i64 R2]) (by simp [results, Tryz.results10, go_sem, z0, z1, z2]) rfl ⟨_, rfl, RSrv.to SV7.out (fun k hk hl => ⟨trivial, q2.same k hl hk.2⟩), ((btr B5 hb6).trans (hb7.mono (by omega))).trans (q2.bel.mono (by omega))⟩
    · rw [if_pos c2] at hr
      cases hr
      have d1 : (chkEn x != 0) = true := by simpa using c2
      clear c2
      have Y := Lib.hid ((B3.block _ hz2).trans hR.out)
      have hfz : ∀ i, w3.frozen? ⟨w.heap.size + 2, i, none⟩ = false := fun i => Lib.frozen_of_heap Y.out _
      have hzz := lt_of_heap Y.out
      obtain ⟨y0, y1, y2⟩ := P3.of Y.out
      go_wp2
      obtain ⟨q1, q2⟩ := set012 Y.out (.slice none 0 0) (.slice none 0 0) (.slice none 0 0)
      generalize hwz : (((w3.setCell ⟨w.heap.size + 2, 0, none⟩ _).setCell ⟨w.heap.size + 2, 1, none⟩ _).setCell ⟨w.heap.size + 2, 2, none⟩ _) = wz at *
      obtain ⟨z0, z1, z2⟩ := P3.of q1
      exact bodyPost_ret (v := .tuple #[.agg #[.slice none 0 0, .slice none 0 0, .slice none 0 0], .int .i64 (chkEn x)]) (by simp [results, Tryz.results10, go_sem, z0, z1, z2]) rfl ⟨_, rfl, RSrv.zero, (btr hB1.out B3).trans (q2.bel.mono (by omega))⟩
  · have hr := hres.out
    rw [takeP, if_pos c1] at hr
    cases hr
    have d1 : (chkSrv s != 0) = true := by simpa using c1
    clear c1 hres
    have Y := Lib.hid ((B2.block _ hz2).trans hR.out)
    have hfz : ∀ i, w2.frozen? ⟨w.heap.size + 2, i, none⟩ = false := fun i => Lib.frozen_of_heap Y.out _
    have hzz := lt_of_heap Y.out
    obtain ⟨y0, y1, y2⟩ := P3.of Y.out
    go_wp2
    obtain ⟨q1, q2⟩ := set012 Y.out (.slice none 0 0) (.slice none 0 0) (.slice none 0 0)
    generalize hwz : (((w2.setCell ⟨w.heap.size + 2, 0, none⟩ _).setCell ⟨w.heap.size + 2, 1, none⟩ _).setCell ⟨w.heap.size + 2, 2, none⟩ _) = wz at *
    obtain ⟨z0, z1, z2⟩ := P3.of q1
    exact bodyPost_ret (v := .tuple #[.agg #[.slice none 0 0, .slice none 0 0, .slice none 0 0], .int .i64 (chkSrv s)]) (by simp [results, Tryz.results10, go_sem, z0, z1, z2]) rfl ⟨_, rfl, RSrv.zero, (btr hB1.out B2).trans (q2.bel.mono (by omega))⟩
end Go.Proofs.YtckdlhgeelhnmaaGreat
/- The closed fact 'served' of the laws on servers. -/
namespace Go.Mh
open Go.RowKit
/-- A server in a block of its own. -/
def SAt (e : TypeId) (w : World) (g : Nat) (s : Srv) : Prop := ∃ a l n, w.heap[g]? = some (.cells #[a, l, n] e (0, 0)) ∧ RSrv (· ≠ g) w (.agg #[a, l, n]) s
theorem SAt.below {e : TypeId} {w w' : World} {g : Nat} {s : Srv} (h : SAt e w g s) (hb : Below w.heap.size w w') : SAt e w' g s := by
  obtain ⟨a, l, n, h0, h1⟩ := h
  exact ⟨a, l, n, (hb.block _ (lt_of_heap h0)).trans h0, RSrv.to h1 (Kp.below hb)⟩
theorem srv_store {e : TypeId} {w : World} {s : Srv} {F : Nat → Prop} {a l n : Value} (hR : RSrv F w (.agg #[a, l, n]) s) {w' : World} (hw : w.alloc (.cells #[a, l, n] e) = w') : SAt e w' w.heap.size s ∧ Below w.heap.size w w' := by
  subst hw
  have hb : Below w.heap.size w (w.alloc (.cells #[a, l, n] e)) := bal (brf w) _
  exact ⟨⟨a, l, n, heap_new w _, RSrv.to hR (fun i _ hl => ⟨by omega, hb.block i hl⟩)⟩, hb⟩
theorem SAt.ofVal {e : TypeId} {w : World} {g : Nat} {s : Srv} {F : Nat → Prop} {a l n u0 u1 u2 : Value} (hG : w.heap[g]? = some (.cells #[u0, u1, u2] e (0, 0))) (hN : NoIt w g) (h : RSrv F w (.agg #[a, l, n]) s) :
    SAt e (((w.setCell ⟨g, 0, none⟩ a).setCell ⟨g, 1, none⟩ l).setCell ⟨g, 2, none⟩ n) g s ∧ Stays g w (((w.setCell ⟨g, 0, none⟩ a).setCell ⟨g, 1, none⟩ l).setCell ⟨g, 2, none⟩ n) := by
  obtain ⟨q1, q2⟩ := set012 hG a l n
  exact ⟨⟨a, l, n, q1, RSrv.to (RSrv.ne h hN) (fun k hk hl => ⟨hk.2, q2.same k hl hk.2⟩)⟩, q2⟩
theorem get_mapS {α β : Type} {l : List α} {f : α → β} {i : Nat} {y : β} (h : (l[i]?).map f = some y) : ∃ x, l[i]? = some x ∧ f x = y := by
  cases hq : l[i]? with
  | none => rw [hq] at h; simp at h
  | some x => rw [hq] at h; simp at h; exact ⟨x, rfl, h⟩
end Go.Mh
namespace Go.Proofs.YtckdlhgeelhnmaaGreat
open Go.RowKit Go.Mh

instance : DecidableEq Srv := fun a b => decidable_of_iff (a.first = b.first ∧ a.log = b.log ∧ a.now = b.now) (by cases a; cases b; simp)
def sv2 : List It := [⟨97, 0, []⟩, ⟨120, 0, []⟩, ⟨98, 1, []⟩, ⟨10, 1, []⟩, ⟨60, 0, [104, 116, 116, 112, 58, 38]⟩, ⟨10, 2, []⟩]
def sv3 : List It := [⟨97, 0, []⟩, ⟨120, 0, []⟩, ⟨121, 0, []⟩, ⟨98, 1, []⟩, ⟨10, 1, []⟩, ⟨60, 0, [104, 116, 116, 112, 58, 38]⟩, ⟨10, 2, []⟩]
def ss1 : Srv := ⟨smallL, [], smallL⟩
def ss2 : Srv := ⟨smallL, [⟨1, 1, putsP 120 1 5⟩], sv2⟩
def ss3 : Srv := ⟨smallL, [⟨1, 1, putsP 120 1 5⟩, ⟨2, 1, putsP 121 2 6⟩], sv3⟩
theorem sd_1 : newS smallL = (ss1, 0) := by decide +kernel
theorem sd_2 : takeP ss1 0 ⟨1, 1, putsP 120 1 5⟩ = (ss2, 0) := by decide +kernel
theorem sd_3 : takeP ss2 0 ⟨2, 1, putsP 121 1 5⟩ = (ss3, 0) := by decide +kernel
theorem sd_4 : takeP ss3 3 ⟨2, 2, putsP 122 1 7⟩ = (srv0, 6) := by decide +kernel

set_option maxRecDepth 100000 in
set_option maxHeartbeats 8000000 in
theorem served_any (w : World) :
    Calls Tryz.prog 14 #[] w fun e w' => e = .returned (.bool true) ∧ Below w.heap.size w w' := by
  obtain ⟨s1, s2, s3, d1, d2, d3, d4, d5⟩ : ∃ s1 s2 s3, Hid (newS smallL = (s1, 0)) ∧ Hid (takeP s1 0 ⟨1, 1, putsP 120 1 5⟩ = (s2, 0)) ∧ Hid (takeP s2 0 ⟨2, 1, putsP 121 1 5⟩ = (s3, 0)) ∧ Hid (takeP s3 3 ⟨2, 2, putsP 122 1 7⟩ = (srv0, 6)) ∧ Hid (s3.log.length = 2 ∧ s3.now.length = 7 ∧ (s3.now[1]?).map It.c = some 120 ∧ (s3.now[2]?).map It.c = some 121 ∧ hasP s3.log 2 1 = true) :=
    ⟨ss1, ss2, ss3, Lib.hid sd_1, Lib.hid sd_2, Lib.hid sd_3, Lib.hid sd_4, Lib.hid ⟨rfl, rfl, rfl, rfl, rfl⟩⟩
  go_enter Tryz.func14, Tryz.ntmps14
  go_wp2_with fail
  refine (small_any w).mono ?_
  rintro e w1 ⟨v1, rfl, hr1, hb1⟩
  have C := Lib.hid (svNew_any _ v1 smallL w1 hr1)
  rw [d1.out] at C
  clear hr1
  go_wp2_with fail
  refine C.out.mono ?_
  rintro e w2 ⟨v2, rfl, hr2, hb2⟩
  have hB2 := hb1.trans (hb2.mono hb1.size)
  obtain ⟨a2, l2, n2, rfl, _⟩ := id hr2
  obtain ⟨p1, p2, p3, p4, p5, p6, rfl, rfl, rfl⟩ := rsrv_shape hr2
  have hr2' := Lib.hid hr2
  clear C hr2 hb1 hb2
  go_upto_region 2 with fail
  refine name_world ?_
  intro w3 hW3
  obtain ⟨hA, hbA⟩ := srv_store hr2'.out hW3
  have hB3 := hB2.trans (hbA.mono hB2.size)
  have H3 := Lib.hid hA
  have hgw : w.heap.size ≤ w2.heap.size := hB2.size
  clear hW3 hA hbA hr2' hB2
  generalize w2.heap.size = g at *
  obtain ⟨a0, l0, n0, e0, RV0⟩ := id H3.out
  obtain ⟨aa, ac, la, lc, na, nc, rfl, rfl, rfl⟩ := rsrv_shape RV0
  obtain ⟨x0, x1, x2⟩ := P3.of e0
  have hgl := lt_of_heap e0
  have E0 := Lib.hid e0
  have RV : Hid (RSrv (· ≠ g) w3.drew (.agg #[.slice aa s1.first.length ac, .slice la s1.log.length lc, .slice na s1.now.length nc]) s1) := Lib.hid (RSrv.to RV0 (Kp.below (brf _).drew))
  have CD : Hid (∀ (wp : World) (rp : Value) (Gq : Nat → Prop), RSrv (· ≠ g) wp (.agg #[.slice aa s1.first.length ac, .slice la s1.log.length lc, .slice na s1.now.length nc]) s1 → ROp Gq wp rp (putsP 120 1 5) → Calls Tryz.prog 10 #[.agg #[.slice aa s1.first.length ac, .slice la s1.log.length lc, .slice na s1.now.length nc], .int .i64 0, .agg #[.int .i64 1, .int .i64 1, rp]] wp fun e w' => ∃ v', e = .returned (.tuple #[v', .int .i64 0]) ∧ RSrv (fun _ => True) w' v' s2 ∧ Below wp.heap.size wp w') := Lib.hid (fun wp rp Gq h g' => by have := svTake_any _ _ _ _ _ 0 ⟨1, 1, putsP 120 1 5⟩ wp h g'; rw [d2.out] at this; exact this)
  clear e0 RV0
  go_cut [3] (fun t3 wx => t3 = .int .i64 0 ∧ SAt 37 wx g s2 ∧ Below w.heap.size w wx)
  case first =>
    go_region_with
      (first
        | (go_at_call 50; refine (puts_any 120 1 5 (by decide) _).mono ?_; rintro e wp ⟨rp, rfl, hrp, hbp⟩; have hGp := (hbp.block g hgl).trans E0.out; obtain ⟨xp0, xp1, xp2⟩ := P3.of hGp; obtain ⟨pa, pc, rfl, _⟩ := RdS.len hrp)
        | (go_at_call 10; refine (CD.out wp _ _ (RSrv.to RV.out (Kp.below hbp)) hrp).mono ?_; rintro e wq ⟨vq, rfl, hrq, hbq⟩; obtain ⟨_, _, _, rfl, _⟩ := id hrq; obtain ⟨t1, t2, t3, t4, t5, t6, rfl, rfl, rfl⟩ := rsrv_shape hrq; have hGq := (hbq.block g (lt_of_heap hGp)).trans hGp; obtain ⟨xq0, xq1, xq2⟩ := P3.of hGq; have hfq : ∀ i, wq.frozen? ⟨g, i, none⟩ = false := fun i => Lib.frozen_of_heap hGq _; have hgq : g < wq.heap.size := lt_of_heap hGq))
    all_goals
      go_wp2_with fail
      go_meet
      have hbw : Below w.heap.size w wq := (hB3.drew.trans (hbp.mono hB3.drew.size)).trans (hbq.mono (hB3.drew.trans (hbp.mono hB3.drew.size)).size)
      have hcq := SAt.ofVal hGq (NoIt.of3 ⟨_, _, _, rfl⟩ ⟨_, _, _, rfl⟩ ⟨_, _, _, rfl⟩ hGq) hrq
      exact ⟨rfl, hcq.1, hbw.trans (hcq.2.bel.mono hgw)⟩
  case rest =>
    obtain ⟨rfl, H4', hB4⟩ := hcut
    have H4 := Lib.hid H4'
    clear H4' x0 x1 x2 hB3 H3 E0 RV CD hgl
    go_upto_region 3 with fail
    obtain ⟨a0, l0, n0, e0, RV0⟩ := id H4.out
    obtain ⟨aa, ac, la, lc, na, nc, rfl, rfl, rfl⟩ := rsrv_shape RV0
    obtain ⟨x0, x1, x2⟩ := P3.of e0
    have hgl := lt_of_heap e0
    have E0 := Lib.hid e0
    have RV : Hid (RSrv (· ≠ g) wc.drew (.agg #[.slice aa s2.first.length ac, .slice la s2.log.length lc, .slice na s2.now.length nc]) s2) := Lib.hid (RSrv.to RV0 (Kp.below (brf _).drew))
    have CD : Hid (∀ (wp : World) (rp : Value) (Gq : Nat → Prop), RSrv (· ≠ g) wp (.agg #[.slice aa s2.first.length ac, .slice la s2.log.length lc, .slice na s2.now.length nc]) s2 → ROp Gq wp rp (putsP 121 1 5) → Calls Tryz.prog 10 #[.agg #[.slice aa s2.first.length ac, .slice la s2.log.length lc, .slice na s2.now.length nc], .int .i64 0, .agg #[.int .i64 2, .int .i64 1, rp]] wp fun e w' => ∃ v', e = .returned (.tuple #[v', .int .i64 0]) ∧ RSrv (fun _ => True) w' v' s3 ∧ Below wp.heap.size wp w') := Lib.hid (fun wp rp Gq h g' => by have := svTake_any _ _ _ _ _ 0 ⟨2, 1, putsP 121 1 5⟩ wp h g'; rw [d3.out] at this; exact this)
    clear e0 RV0
    go_cut [4] (fun t4 wx => t4 = .int .i64 0 ∧ SAt 37 wx g s3 ∧ Below w.heap.size w wx)
    case first =>
      go_region_with
        (first
          | (go_at_call 50; refine (puts_any 121 1 5 (by decide) _).mono ?_; rintro e wp ⟨rp, rfl, hrp, hbp⟩; have hGp := (hbp.block g hgl).trans E0.out; obtain ⟨xp0, xp1, xp2⟩ := P3.of hGp; obtain ⟨pa, pc, rfl, _⟩ := RdS.len hrp)
          | (go_at_call 10; refine (CD.out wp _ _ (RSrv.to RV.out (Kp.below hbp)) hrp).mono ?_; rintro e wq ⟨vq, rfl, hrq, hbq⟩; obtain ⟨_, _, _, rfl, _⟩ := id hrq; obtain ⟨t1, t2, t3, t4, t5, t6, rfl, rfl, rfl⟩ := rsrv_shape hrq; have hGq := (hbq.block g (lt_of_heap hGp)).trans hGp; obtain ⟨xq0, xq1, xq2⟩ := P3.of hGq; have hfq : ∀ i, wq.frozen? ⟨g, i, none⟩ = false := fun i => Lib.frozen_of_heap hGq _; have hgq : g < wq.heap.size := lt_of_heap hGq))
      all_goals
        go_wp2_with fail
        go_meet
        have hbw : Below w.heap.size w wq := (hB4.drew.trans (hbp.mono hB4.drew.size)).trans (hbq.mono (hB4.drew.trans (hbp.mono hB4.drew.size)).size)
        have hcq := SAt.ofVal hGq (NoIt.of3 ⟨_, _, _, rfl⟩ ⟨_, _, _, rfl⟩ ⟨_, _, _, rfl⟩ hGq) hrq
        exact ⟨rfl, hcq.1, hbw.trans (hcq.2.bel.mono hgw)⟩
    case rest =>
      obtain ⟨rfl, H5', hB5⟩ := hcut
      have H5 := Lib.hid H5'
      clear H5' x0 x1 x2 hB4 H4 E0 RV CD hgl
      go_upto_region 4 with fail
      obtain ⟨a0, l0, n0, e0, RV0⟩ := id H5.out
      obtain ⟨aa, ac, la, lc, na, nc, rfl, rfl, rfl⟩ := rsrv_shape RV0
      obtain ⟨x0, x1, x2⟩ := P3.of e0
      have hgl := lt_of_heap e0
      have E0 := Lib.hid e0
      have RV : Hid (RSrv (· ≠ g) wc.drew (.agg #[.slice aa s3.first.length ac, .slice la s3.log.length lc, .slice na s3.now.length nc]) s3) := Lib.hid (RSrv.to RV0 (Kp.below (brf _).drew))
      have CD : Hid (∀ (wp : World) (rp : Value) (Gq : Nat → Prop), RSrv (· ≠ g) wp (.agg #[.slice aa s3.first.length ac, .slice la s3.log.length lc, .slice na s3.now.length nc]) s3 → ROp Gq wp rp (putsP 122 1 7) → Calls Tryz.prog 10 #[.agg #[.slice aa s3.first.length ac, .slice la s3.log.length lc, .slice na s3.now.length nc], .int .i64 3, .agg #[.int .i64 2, .int .i64 2, rp]] wp fun e w' => ∃ v', e = .returned (.tuple #[v', .int .i64 6]) ∧ RSrv (fun _ => True) w' v' srv0 ∧ Below wp.heap.size wp w') := Lib.hid (fun wp rp Gq h g' => by have := svTake_any _ _ _ _ _ 3 ⟨2, 2, putsP 122 1 7⟩ wp h g'; rw [d4.out] at this; exact this)
      clear e0 RV0
      go_cut [6] (fun t6 wx => t6 = .int .i64 6 ∧ SAt 37 wx g s3 ∧ Below w.heap.size w wx)
      case first =>
        go_region_with
          (first
            | (go_at_call 50; refine (puts_any 122 1 7 (by decide) wc.drew).mono ?_; rintro e wp ⟨rp, rfl, hrp, hbp⟩; have hbp' : Below wc.drew.heap.size wc.drew wp := hbp; have hGp := (hbp'.block g hgl).trans E0.out; have hgp : g < wp.heap.size := lt_of_heap hGp; obtain ⟨xp0, xp1, xp2⟩ := P3.of hGp; obtain ⟨pa, pc, rfl, _⟩ := RdS.len hrp)
            | (go_at_call 50; refine (puts_any 122 1 7 (by decide) (wc.drew.alloc (.cells #[.slice none 0 0, .slice none 0 0, .slice none 0 0] 37))).mono ?_; rintro e wp ⟨rp, rfl, hrp, hbp⟩; have hbp' : Below wc.drew.heap.size wc.drew wp := btr (bal (brf _) _) hbp; have hZp : wp.heap[wc.heap.size]? = some (.cells #[.slice none 0 0, .slice none 0 0, .slice none 0 0] 37) := (hbp.block _ (by simp)).trans (heap_at rfl); have hGp := (hbp'.block g hgl).trans E0.out; have hgp : g < wp.heap.size := lt_of_heap hGp; obtain ⟨xp0, xp1, xp2⟩ := P3.of hGp; obtain ⟨pa, pc, rfl, _⟩ := RdS.len hrp)
            | (go_at_call 10; refine (CD.out wp _ _ (RSrv.to RV.out (Kp.below hbp')) hrp).mono ?_; rintro e wq ⟨vq, rfl, hrq, hbq⟩; obtain ⟨_, _, _, rfl, _⟩ := id hrq; obtain ⟨t1, t2, t3, t4, t5, t6, rfl, rfl, rfl⟩ := rsrv_shape hrq; have hbq' : Below wc.drew.heap.size wc.drew wq := btr hbp' hbq; first | (have hZq := (hbq.block _ (lt_of_heap hZp)).trans hZp; obtain ⟨zb0, zb1, zb2⟩ := P3.of hZq; have hfb : ∀ i, wq.frozen? ⟨wc.heap.size, i, none⟩ = false := fun i => Lib.frozen_of_heap hZq _; have hzb := lt_of_heap hZq) | skip)
            | (go_at_call 10; refine (CD.out (wp.alloc (.cells #[.slice none 0 0, .slice none 0 0, .slice none 0 0] 37)) _ _ (RSrv.to RV.out (Kp.below (bal hbp' _))) (ROp.to hrp (Kp.below (bal (brf _) _)))).mono ?_; rintro e wq ⟨vq, rfl, hrq, hbq⟩; obtain ⟨_, _, _, rfl, _⟩ := id hrq; obtain ⟨t1, t2, t3, t4, t5, t6, rfl, rfl, rfl⟩ := rsrv_shape hrq; have hbq' : Below wc.drew.heap.size wc.drew wq := btr (bal hbp' _) hbq; have hle : wc.heap.size ≤ wp.heap.size := hbp'.size; have hZq : wq.heap[wp.heap.size]? = some (.cells #[.slice none 0 0, .slice none 0 0, .slice none 0 0] 37) := (hbq.block _ (by simp)).trans (heap_at rfl); obtain ⟨zb0, zb1, zb2⟩ := P3.of hZq; have hfb : ∀ i, wq.frozen? ⟨wp.heap.size, i, none⟩ = false := fun i => Lib.frozen_of_heap hZq _; have hzb := lt_of_heap hZq))
        all_goals
          go_wp2_with fail
          go_meet
          have hbw : Below w.heap.size w wq := hB5.drew.trans (hbq'.mono hB5.drew.size)
          first
            | exact ⟨rfl, SAt.below H5.out (btr (brf _).drew (bal hbq' _)), bal hbw _⟩
            | exact ⟨rfl, SAt.below H5.out (btr (brf _).drew (hbq'.trans (((Stays.set.trans Stays.set).trans Stays.set).bel.mono (Nat.le_refl _)))), hbw.trans (((Stays.set.trans Stays.set).trans Stays.set).bel.mono hB5.size)⟩
            | exact ⟨rfl, SAt.below H5.out (btr (brf _).drew (hbq'.trans (((Stays.set.trans Stays.set).trans Stays.set).bel.mono hle))), hbw.trans (((Stays.set.trans Stays.set).trans Stays.set).bel.mono (Nat.le_trans hB5.size hle))⟩
      case rest =>
        obtain ⟨rfl, H6', hB6⟩ := hcut
        have H6 := Lib.hid H6'
        clear H6' x0 x1 x2 hB5 H5 E0 RV CD hgl
        obtain ⟨a0, l0, n0, e0, RV0⟩ := id H6.out
        obtain ⟨aa, ac, la, lc, na, nc, rfl, rfl, rfl⟩ := rsrv_shape RV0
        obtain ⟨x0, x1, x2⟩ := P3.of e0
        obtain ⟨f1, f2, f3, f4, f5⟩ := d5.out
        obtain ⟨i1, hi1, hc1'⟩ := get_mapS f3
        obtain ⟨i2, hi2, hc2'⟩ := get_mapS f4
        obtain ⟨_, _, _, ev, r1, r2, r3⟩ := id RV0
        simp at ev
        obtain ⟨rfl, rfl, rfl⟩ := ev
        obtain ⟨bd, od, ed, z0, _, _⟩ := RItems.at r3 (brf _) hi1
        obtain ⟨bd', od', ed', t0, _, _⟩ := RItems.at r3 (brf _) hi2
        subst ed
        cases ed'
        have S := Lib.hid (svHas_any _ _ s3 2 1 wc RV0)
        rw [f5] at S
        rw [hc1'] at z0
        rw [hc2'] at t0
        rw [f1] at x1 S
        rw [f2] at x2 S
        simp only [Nat.one_mul] at z0 t0
        clear e0 r1 r2 r3 RV0 hi1 hi2 hc1' hc2' f1 f2 f3 f4 f5 H6 d1 d2 d3 d4 d5
        go_wp2_with fail
        refine S.out.mono ?_
        rintro e w9 ⟨rfl, hb9⟩
        go_wp2
        go_ret
        exact ⟨rfl, hB6.trans (hb9.mono hB6.size)⟩
end Go.Proofs.YtckdlhgeelhnmaaGreat
