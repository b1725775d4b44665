/- The law ServerOrder, walked. -/
import Derived.Test.YtgodceplajkcdaaSvH
import Derived.Test.YtgodceplajkcdaaSvF
namespace Go.Mh
open Go.RowKit
theorem RLog.addr {F : Nat → Prop} {w : World} {a : Option Addr} {n cap : Nat} {L : List En} (h : RLog F w (.slice a n cap) L) (hn : L ≠ []) : ∃ b o, a = some ⟨b, o, none⟩ := by
  obtain ⟨a', cap', e, h1, _, _, h4⟩ := h
  cases e
  cases L with
  | nil => exact absurd rfl hn
  | cons x L =>
    obtain ⟨b, o, _, e1, _⟩ := h4 0 x rfl
    exact ⟨b, o, e1⟩
theorem Ord.step {now : List It} {fin : List Pt} {D : List It} {O : List Pt} {l : List En} {k : Nat} {y : En} (h : Ord now fin D O (l.drop k)) (hy : l[k]? = some y) :
    (turnP y.o O).2.2 = 0 ∧ Ord now fin (doA D (acts y.o)) (turnP y.o O).2.1 (l.drop (k + 1)) ∧
    ((applyP (doA D (acts O)) (turnP y.o O).1).2 ≠ 0 ∨ applyP (doA D (acts O)) (turnP y.o O).1 = (doA (doA D (acts y.o)) (acts (turnP y.o O).2.1), 0)) := by
  obtain ⟨hk, e⟩ := List.getElem?_eq_some_iff.1 hy
  rw [List.drop_eq_getElem_cons hk, e] at h
  exact h.cons
end Go.Mh
namespace Go.Proofs.Ytgodceplajkcdaa
open Go.RowKit Go.Mh

set_option maxRecDepth 100000 in
set_option maxHeartbeats 8000000 in
theorem serverOrder_walk (F G : Nat → Prop) (v ov : Value) (s : Srv) (rev : Int) (x : En) (w : World) (h : RSrv F w v s) (g : ROp G w ov x.o) :
    Calls Try.prog 13 #[v, .int .i64 rev, .agg #[.int .i64 x.client, .int .i64 x.seq, ov]] w fun e w' => e = .returned (.bool true) ∧ Below w.heap.size w w' := by
  obtain ⟨a0, l0, n0, rfl, _⟩ := id h
  obtain ⟨aa, ac, la, lc, na, nc, rfl, rfl, rfl⟩ := rsrv_shape h
  obtain ⟨oa, oc, rfl, _⟩ := RdS.len g
  obtain ⟨w0, hw0⟩ : ∃ w0, w0 = (w.alloc (.cells #[.slice aa s.first.length ac, .slice la s.log.length lc, .slice na s.now.length nc] 74)).alloc (.cells #[.int .i64 x.client, .int .i64 x.seq, .slice oa x.o.length oc] 76) := ⟨_, rfl⟩
  have hb0 : Below w.heap.size w w0 := by rw [hw0]; exact bal (bal (brf w) _) _
  have E0 := Lib.hid (by rw [hw0]; exact heap_at2 rfl : w0.heap[w.heap.size]? = some (.cells #[.slice aa s.first.length ac, .slice la s.log.length lc, .slice na s.now.length nc] 74 (0, 0)))
  have M0 := Lib.hid (by rw [hw0]; exact heap_at (by simp) : w0.heap[w.heap.size + 1]? = some (.cells #[.int .i64 x.client, .int .i64 x.seq, .slice oa x.o.length oc] 76 (0, 0)))
  have hl0 := lt_of_heap E0.out
  have hl1 := lt_of_heap M0.out
  have HV := Lib.hid (RSrv.to h (Kp.below hb0))
  have HO := Lib.hid (ROp.to g (Kp.below hb0))
  clear h g
  have htk : ∃ r, Hid (takeP s rev x = r) := ⟨_, Lib.hid rfl⟩
  obtain ⟨⟨t, et⟩, htk⟩ := htk
  have CT := Lib.hid (svTake_any F G _ _ s rev x w0 HV.out HO.out)
  rw [htk.out] at CT
  go_enter Try.func13, Try.ntmps13
  go_upto_region 1 with fail
  rw [← hw0]
  clear hw0
  obtain ⟨x0, x1, x2⟩ := P3.of (((brf w0).block _ hl0).trans E0.out)
  obtain ⟨e0, e1, e2⟩ := P3.of (((brf w0).block _ hl1).trans M0.out)
  go_wp2_with fail
  refine CT.out.mono ?_
  rintro e w2 ⟨v2, rfl, hr2, hb2⟩
  obtain ⟨a2, l2, n2, rfl, _⟩ := id hr2
  obtain ⟨ta, tc, ua, uc, pa, pc, rfl, rfl, rfl⟩ := rsrv_shape hr2
  have hr2' := Lib.hid hr2
  clear CT hr2 x0 x1 x2 e0 e1 e2
  go_upto_region 2 with fail
  refine name_world ?_
  intro w3 hW3
  obtain ⟨hA, hbA⟩ := srv_store hr2'.out hW3
  have B3 : Below w0.heap.size w0 w3 := hb2.trans (hbA.mono hb2.size)
  have H3 := Lib.hid hA
  clear hW3 hA hbA hr2' hb2
  generalize w2.heap.size = gt at *
  go_wp2_with fail
  refine (served_any w3).mono ?_
  rintro e w4 ⟨rfl, hb4⟩
  have B4 := B3.trans (hb4.mono B3.size)
  have H4 := Lib.hid (H3.out.below hb4)
  clear H3 B3 hb4
  by_cases het : et = 0
  · subst het
    obtain ⟨a3, l3, n3, T0, TV⟩ := id H4.out
    obtain ⟨ta', tc', ua', uc', pa', pc', rfl, rfl, rfl⟩ := rsrv_shape TV
    obtain ⟨_, _, _, ev, r1, r2, r3⟩ := id TV
    simp at ev
    obtain ⟨rfl, rfl, rfl⟩ := ev
    have hgt := lt_of_heap T0
    have T0 := Lib.hid T0
    have R2 := Lib.hid r2
    have R3 := Lib.hid r3
    clear r1 r2 r3 TV
    by_cases hq : t.log.length = s.log.length
    · have d3 : ((t.log.length : Int) == (s.log.length : Int)) = true := by simp [hq]
      have d4 : (t.log.length == s.log.length) = true := by simp [hq]
      clear hq htk
      obtain ⟨x0, x1, x2⟩ := P3.of ((B4.block _ hl0).trans E0.out)
      obtain ⟨e0, e1, e2⟩ := P3.of ((B4.block _ hl1).trans M0.out)
      obtain ⟨y0, y1, y2⟩ := P3.of T0.out
      go_wp2_with fail
      refine (served_any w4).mono ?_
      rintro e w5 ⟨rfl, hb5⟩
      go_wp2
      go_ret
      exact ⟨rfl, (hb0.trans (B4.mono hb0.size)).trans (hb5.mono (hb0.trans (B4.mono hb0.size)).size)⟩
    · have d3 : ((t.log.length : Int) == (s.log.length : Int)) = false := by simp; omega
      have d4 : (t.log.length == s.log.length) = false := by simpa using hq
      obtain ⟨k1, k2, d, fin, k3, k4, k5, k6⟩ := law_order htk.out hq
      clear hq htk
      obtain ⟨r, rfl⟩ : ∃ r : Nat, rev = (r : Int) := ⟨rev.toNat, by omega⟩
      simp only [Int.toNat_natCast] at k3 k4
      have hrl : r ≤ s.log.length := by omega
      have K3 := Lib.hid k3
      have K4 := Lib.hid k4
      have K5 := Lib.hid k5
      have K6 := Lib.hid k6
      have hg0 : (0 : Int) ≤ (r : Int) := by omega
      clear k1 k2 k3 k4 k5 k6
      obtain ⟨_, _, _, ev, q1, q2, q3⟩ := id HV.out
      simp at ev
      obtain ⟨rfl, rfl, rfl⟩ := ev
      have SF := Lib.hid q1
      have SL := Lib.hid q2
      have hcap : s.log.length ≤ lc := by obtain ⟨_, _, e, h1, _⟩ := q2; cases e; exact h1
      have hrc : r ≤ lc := Nat.le_trans hrl hcap
      have hrci : (r : Int) ≤ (lc : Int) := by omega
      have RT := Lib.hid (RdS.take q2 r hrl)
      clear q1 q2 q3
      obtain ⟨x0, x1, x2⟩ := P3.of ((B4.block _ hl0).trans E0.out)
      obtain ⟨e0, e1, e2⟩ := P3.of ((B4.block _ hl1).trans M0.out)
      obtain ⟨y0, y1, y2⟩ := P3.of T0.out
      go_upto_region 4 with fail
      clear y0 y1 y2 e0 e1 e2
      have C := Lib.hid (svFold_any _ _ _ _ s.first (s.log.take r) w4.drew (RItems.to SF.out (Kp.below (B4.trans ((brf w4).drew.mono B4.size)))) (RLog.to RT.out (Kp.below (B4.trans ((brf w4).drew.mono B4.size)))))
      rw [K3.out] at C
      go_cut [8, 9] (fun t8 t9 wx => t8 = .int .i64 0 ∧ RItems (fun _ => True) wx t9 d ∧ Below w4.heap.size w4 wx)
      case first =>
        go_region_with (go_at_call 54; refine C.out.mono ?_; rintro e w5 ⟨r5, rfl, hr5, hb5⟩)
        all_goals
          go_wp2_with fail
          go_meet
          exact ⟨rfl, RItems.to hr5 (Kp.weak w5 fun _ _ => trivial), btr (brf w4).drew hb5⟩
      case rest =>
        obtain ⟨rfl, hD, BC⟩ := hcut
        have B5 := B4.trans (BC.mono B4.size)
        obtain ⟨da, dc, rfl, _⟩ := RdS.len hD
        have D5 := Lib.hid hD
        clear C x0 x1 x2 RT hD
        have C := Lib.hid (opApply_any _ _ _ _ d x.o wc D5.out (ROp.to HO.out (Kp.below B5)))
        obtain ⟨e0, e1, e2⟩ := P3.of ((B5.block _ hl1).trans M0.out)
        rcases K4.out.err with k2 | kok
        · rw [k2] at C
          clear k2
          go_wp2_with fail
          refine C.out.mono ?_
          rintro e w6 ⟨r6, rfl, hr6, hb6⟩
          go_wp2
          go_ret
          exact ⟨rfl, btr hb0 (btr B5 hb6)⟩
        · rw [kok] at C
          clear kok
          go_wp2_with fail
          refine C.out.mono ?_
          rintro e w6 ⟨r6, rfl, hr6, hb6⟩
          obtain ⟨fa, fc, rfl, _⟩ := RdS.len hr6
          have B6 := btr B5 hb6
          have B46 := btr BC hb6
          have F6 := Lib.hid (RItems.to hr6 (Kp.weak w6 fun _ _ => trivial) : RItems (fun _ => True) w6 _ _)
          have SL6 := Lib.hid (RLog.to SL.out (Kp.below B6))
          have HO6 := Lib.hid (ROp.to HO.out (fun k _ hl => ⟨trivial, B6.block k hl⟩) : ROp (fun _ => True) w6 _ _)
          clear e0 e1 e2 C hr6 hb6 B5 BC D5 SF
          obtain ⟨e0, e1, e2⟩ := P3.of ((B6.block _ hl1).trans M0.out)
          obtain ⟨x0, x1, x2⟩ := P3.of ((B6.block _ hl0).trans E0.out)
          go_upto_region 11 with fail
          go_cut [68, 69, 70] (fun t68 t69 t70 wx => wx = w6 ∧ ∃ ga gc, t68 = .slice ga (s.log.length - r) gc ∧ t69 = .int .i64 ((s.log.length - r : Nat) : Int) ∧ t70 = .int .i64 0 ∧ Hid (RLog (fun _ => True) w6 (.slice ga (s.log.length - r) gc) (s.log.drop r)))
          case first =>
            have HL := Lib.hid (RLog.to SL6.out (Kp.weak w6 fun _ _ => trivial) : RLog (fun _ => True) w6 (.slice la s.log.length lc) s.log)
            by_cases hc : lc = r
            · have hn : s.log.length = r := by omega
              have hd : Hid (RLog (fun _ => True) w6 (.slice la (s.log.length - r) 0) (s.log.drop r)) := Lib.hid (by rw [← hn, List.drop_length, Nat.sub_self]; exact RdS.nilX)
              clear hcap hrc hrci hn
              go_wp2_with fail
              go_meet
              exact ⟨rfl, _, _, rfl, rfl, rfl, hd⟩
            · obtain ⟨_, _, ev, _, hmx, hno, _⟩ := id HL.out
              cases ev
              cases la with
              | none => exact absurd (hno rfl) (by intro h0; omega)
              | some A =>
                clear hno
                by_cases hs : s.log = []
                · have hl0' : s.log.length = 0 := by simp [hs]
                  have hdr : s.log.drop r = [] := by simp [hs]
                  have hsr : s.log.length - r = 0 := by omega
                  have hfin := Lib.hid (fun A' : Addr => (by rw [hdr, hsr]; exact ⟨_, _, rfl, Nat.zero_le _, Nat.le_trans (Nat.sub_le _ _) hmx, fun h => by simp at h, fun i x h => by simp at h⟩ : RLog (fun _ => True) w6 (.slice (some A') (s.log.length - r) (lc - r)) (s.log.drop r)))
                  clear hdr hs hsr hl0'
                  go_wp2_with fail
                  go_meet
                  exact ⟨rfl, _, _, rfl, rfl, rfl, Lib.hid (hfin.out _)⟩
                · obtain ⟨b, o, e⟩ := RLog.addr HL.out hs
                  cases e
                  have hd := Lib.hid (RdS.dropC HL.out r hrl)
                  clear hs hmx
                  go_wp2_with fail
                  go_meet
                  exact ⟨rfl, _, _, rfl, rfl, rfl, hd⟩
          case rest =>
            obtain ⟨hwc, ga, gc, rfl, rfl, rfl, HD⟩ := hcut
            subst hwc
            have hl63 : s.log.length ≤ 9223372036854775807 := by obtain ⟨_, _, ev, h1, h2, _⟩ := id SL.out; cases ev; exact Nat.le_trans h1 h2
            clear x0 x1 x2 e0 e1 e2 hrc hrci hcap hg0
            go_wp2
            go_loopw [10, 11, 70] (fun cv ov' i wr => ∃ k : Nat, k ≤ s.log.length - r ∧ i = .int .i64 k ∧ ∃ D O, RItems (fun _ => True) wr cv (doA D (acts O)) ∧ ROp (fun _ => True) wr ov' O ∧ Hid (Ord s.now fin D O ((s.log.drop r).drop k)) ∧ Below wc.heap.size wc wr) (fun _ _ i _ => s.log.length - r - (intOf i).toNat)
            case atStart => exact ⟨0, Nat.zero_le _, rfl, d, x.o, F6.out, HO6.out, Lib.hid (by simpa using K4.out), brf _⟩
            case round =>
              obtain ⟨k, hk, rfl, D, O, hD, hO, hf, hb⟩ := hrel
              obtain ⟨ca, cc, rfl, _⟩ := RdS.len hD
              obtain ⟨za, zc, rfl, _⟩ := RdS.len hO
              have hD' := Lib.hid hD
              have hO' := Lib.hid hO
              clear hD hO
              by_cases hlt : k < s.log.length - r
              · obtain ⟨y, hy⟩ : ∃ y, (s.log.drop r)[k]? = some y := ⟨_, List.getElem?_eq_getElem (by simp; omega)⟩
                obtain ⟨b, o, ev, e1, hr, c0, c1, c2⟩ := RLog.at HD.out hb hy
                subst e1
                obtain ⟨ya, yc, rfl, _⟩ := RdS.len hr
                obtain ⟨s1, s2, s3⟩ := hf.out.step hy
                have S2 := Lib.hid s2
                have hbs : b < wr.heap.size := lt_of_cell c0
                have hb0' : Below wr.heap.size wr (wr.alloc (.cells #[.int .i64 y.client, .int .i64 y.seq, .slice ya y.o.length yc] 76)) := bal (brf wr) _
                have C := Lib.hid (otTurn_any _ _ _ _ y.o O _ (ROp.to hr (Kp.below (btr hb hb0'))) (ROp.to hO'.out (Kp.below hb0')))
                rw [s1] at C
                clear hr hy s1 s2 hf
                go_wp2_with fail
                refine C.out.mono ?_
                rintro e w7 ⟨r7, q7, rfl, hr7, hq7, hb7⟩
                have B7 := btr (btr hb hb0') hb7
                obtain ⟨pa7, pc7, rfl, _⟩ := RdS.len hr7
                obtain ⟨qa7, qc7, rfl, _⟩ := RdS.len hq7
                have Q7 := Lib.hid (ROp.to hq7 (Kp.weak w7 fun _ _ => trivial) : ROp (fun _ => True) w7 _ _)
                have C2 := Lib.hid (opApply_any _ _ _ _ (doA D (acts O)) (turnP y.o O).1 w7 (RItems.to hD'.out (Kp.below (btr hb0' hb7))) hr7)
                clear hr7 hq7 hb7 C c0 c1 c2 hD' hO'
                rcases s3 with s3 | s3
                · have he' : ((applyP (doA D (acts O)) (turnP y.o O).1).2 != 0) = true := by simpa using s3
                  clear s3
                  go_wp2_with fail
                  refine C2.out.mono ?_
                  rintro e w8 ⟨r8, rfl, hr8, hb8⟩
                  go_wp2
                  go_ret
                  exact ⟨rfl, btr hb0 (btr B6 (btr B7 hb8))⟩
                · rw [s3] at C2
                  clear s3
                  go_wp2_with fail
                  refine C2.out.mono ?_
                  rintro e w8 ⟨r8, rfl, hr8, hb8⟩
                  obtain ⟨ra8, rc8, rfl, _⟩ := RdS.len hr8
                  have R8 := Lib.hid (RItems.to hr8 (Kp.weak w8 fun _ _ => trivial) : RItems (fun _ => True) w8 _ _)
                  have Q8 := Lib.hid (ROp.to Q7.out (Kp.below hb8))
                  have B8 := btr B7 hb8
                  clear hr8 C2 Q7 hb8 B7
                  go_wp2
                  go_roundw
                  case rel => exact ⟨k + 1, by omega, by go_num, _, _, R8.out, Q8.out, S2, B8⟩
                  case measure => simp [intOf]; omega
              · obtain rfl : k = s.log.length - r := by omega
                have hz := hf.out
                rw [List.drop_eq_nil_of_le (by simp)] at hz
                obtain ⟨z1, rfl⟩ := hz.nil
                have B4r := btr B46 hb
                have S := Lib.hid (same_any _ _ _ _ (doA D (acts O)) t.now wr hD'.out (RItems.to R3.out (Kp.below B4r)))
                rw [decide_eq_true (z1.trans K5.out.symm)] at S
                have hx : t.log[s.log.length]? = some ⟨x.client, x.seq, O⟩ := by rw [K6.out]; simp
                have hlen : t.log.length = s.log.length + 1 := by rw [K6.out]; simp
                have hl64 : s.log.length + 1 ≤ 9223372036854775807 := by obtain ⟨_, _, ev, h1, h2, _⟩ := id R2.out; cases ev; rw [← hlen]; exact Nat.le_trans h1 h2
                obtain ⟨tb, tq, tv, e1, htv, _, _, c2⟩ := RLog.at R2.out B4r hx
                subst e1
                obtain ⟨va, vc, rfl, _⟩ := RdS.len htv
                have T1 := (B4r.block _ hgt).trans T0.out
                rw [hlen] at T1
                have SO := Lib.hid (fun (w' : World) (hb' : Below wr.heap.size wr w') => opSame_any _ _ _ _ O O w' (ROp.to hO'.out (Kp.below hb')) (ROp.to htv (Kp.below (btr B4r hb'))))
                rw [decide_eq_true rfl] at SO
                obtain ⟨y0, y1, y2⟩ := P3.of T1
                have hgl := lt_of_heap T1
                have hcl := lt_of_cell c2
                have C2 := Lib.hid c2
                have T1 := Lib.hid T1
                have g1 : (0 : Int) ≤ (s.log.length : Int) := by omega
                have g3 : (s.log.length : Int) < (s.log.length : Int) + 1 := by omega
                have g7 : IntKind.i64.wrap (s.log.length : Int) = (s.log.length : Int) := IntWalk.i64_in _ (by omega)
                clear hx hlen htv z1 hz hf c2 hl64 hlt hk hD'
                go_wp2_with fail
                refine S.out.mono ?_
                rintro e w9 ⟨rfl, hb9⟩
                have C3 := (hb9.cell hcl).trans C2.out
                have CS := Lib.hid (SO.out w9 hb9)
                clear y0 y1 y2 S SO
                obtain ⟨y0, y1, y2⟩ := P3.of ((hb9.block _ hgl).trans T1.out)
                go_wp2_with fail
                refine CS.out.mono ?_
                rintro e w10 ⟨rfl, hb10⟩
                go_wp2
                go_ret
                exact ⟨rfl, btr hb0 (btr B6 (btr hb (btr hb9 hb10)))⟩
  · have het' : (et != 0) = true := by simpa using het
    clear het htk
    go_wp2_with fail
    refine (served_any w4).mono ?_
    rintro e w5 ⟨rfl, hb5⟩
    go_wp2
    go_ret
    exact ⟨rfl, (hb0.trans (B4.mono hb0.size)).trans (hb5.mono (hb0.trans (B4.mono hb0.size)).size)⟩
end Go.Proofs.Ytgodceplajkcdaa
