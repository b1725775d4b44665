/- Package server: take: an operation behind all that was done since. -/
import Derived.Test.YtckdlhgeelhnmaaGreatSvD
import Derived.Test.YtckdlhgeelhnmaaGreatOtTurn
import Derived.Test.YtckdlhgeelhnmaaGreatRegT
import Derived.Test.YtckdlhgeelhnmaaGreatPuts
import Derived.Deep.RegionLaw
import Derived.Deep.DeepCutAuto
import Derived.Deep.CutBlock
namespace Go.Mh
open Go.RowKit
theorem rebase_step {o : List Pt} {l : List En} {k : Nat} {x : En} (h : l[k]? = some x) : rebase o (l.drop k) = if (turnP x.o o).2.2 ≠ 0 then ([], (turnP x.o o).2.2) else rebase (turnP x.o o).2.1 (l.drop (k + 1)) := by
  obtain ⟨hk, e⟩ := List.getElem?_eq_some_iff.1 h
  rw [List.drop_eq_getElem_cons hk, e, rebase]
/-- One entry in a block of its own, as what is appended. -/
theorem RE_src {F : Nat → Prop} {e : TypeId} {fr : Nat × Nat} {w : World} {g : Nat} {c s : Int} {ov : Value} {o : List Pt} (h : w.heap[g]? = some (.cells #[.int .i64 c, .int .i64 s, ov] e fr)) (ho : ROp F w ov o) : RdS 3 (REn F) (fun _ => True) w (.slice (some ⟨g, 0, none⟩) 1 1) [⟨c, s, o⟩] := by
  refine ⟨_, 1, rfl, by simp, by simp [maxLen], fun h => by simp at h, fun i y hy => ?_⟩
  cases i with
  | succ i => simp at hy
  | zero =>
    simp at hy
    subst hy
    refine ⟨_, 0, [.int .i64 c, .int .i64 s, ov], rfl, trivial, rfl, fun j u hj => ?_, ov, rfl, ho⟩
    unfold World.cell?
    rw [h]
    match j, hj with
    | 0, hj => simpa using hj
    | 1, hj => simpa using hj
    | 2, hj => simpa using hj
    | n + 3, hj => simp at hj
/-- What Turn gives lies in no block of the log's own, nor in two others that stand. -/
theorem frOwn {e T e1 e2 : TypeId} (hT : T ≠ e) {B0 B g1 g2 : Nat} {R : World → List Value → En → Prop} {w : World} {l : Value} {L : List En} (ho : OwnS B0 e 3 R w l L) {xs1 xs2 : Array Value} {fr1 fr2 : Nat × Nat} (h1 : w.heap[g1]? = some (.cells xs1 e1 fr1)) (ht1 : e1 ≠ T) (h2 : w.heap[g2]? = some (.cells xs2 e2 fr2)) (ht2 : e2 ≠ T) (hg : ∀ k, l.ownBlock = some k → k < B) (b1 : g1 < B) (b2 : g2 < B) :
    Kp (Fr T B w) (fun k => l.ownBlock ≠ some k ∧ k ≠ g1 ∧ k ≠ g2) w w := fun k hk _ => by
  refine ⟨?_, rfl⟩
  rcases hk with h | ⟨xs, fr, e'⟩
  · exact ⟨fun he => by have := hg k he; omega, by omega, by omega⟩
  · refine ⟨fun he => ho.ne e' hT he.symm, fun he => ?_, fun he => ?_⟩
    · subst he; rw [h1] at e'; cases e'; exact ht1 rfl
    · subst he; rw [h2] at e'; cases e'; exact ht2 rfl
theorem OwnS.shape0 {α : Type} {base e sz : Nat} {R : World → List Value → α → Prop} {w : World} {la : Option Addr} {n c : Nat} {L : List α} (h : OwnS base e sz R w (.slice la n c) L) (hc : c ≠ 0) : ∃ g, la = some ⟨g, 0, none⟩ := by
  obtain ⟨css, ⟨_, h1⟩, _⟩ := h
  rcases h1 with ⟨e1, _⟩ | ⟨g, cap, cur, e1, _⟩
  · cases e1; exact absurd rfl hc
  · cases e1; exact ⟨g, rfl⟩
theorem kpT {g1 g2 g3 o1 o2 o3 : Nat} {v0 v1 v2 : Value} {wc w' : World} (h : wc.cell? ⟨g1, o1, none⟩ = some v0 ∧ wc.cell? ⟨g2, o2, none⟩ = some v1 ∧ wc.cell? ⟨g3, o3, none⟩ = some v2) (hb : Below wc.heap.size wc w') :
    w'.cell? ⟨g1, o1, none⟩ = some v0 ∧ w'.cell? ⟨g2, o2, none⟩ = some v1 ∧ w'.cell? ⟨g3, o3, none⟩ = some v2 :=
  ⟨(hb.cell (lt_of_cell h.1)).trans h.1, (hb.cell (lt_of_cell h.2.1)).trans h.2.1, (hb.cell (lt_of_cell h.2.2)).trans h.2.2⟩
theorem set21 {w : World} {g e : Nat} {u0 u1 u2 : Value} (h : w.heap[g]? = some (.cells #[u0, u1, u2] e (0, 0))) (v2 v1 : Value) :
    ((w.setCell ⟨g, 2, none⟩ v2).setCell ⟨g, 1, none⟩ v1).heap[g]? = some (.cells #[u0, v1, v2] e (0, 0)) ∧ Stays g w ((w.setCell ⟨g, 2, none⟩ v2).setCell ⟨g, 1, none⟩ v1) := by
  constructor
  · have h1 : (w.setCell ⟨g, 2, none⟩ v2).heap[g]? = some (.cells #[u0, u1, v2] e (0, 0)) := by rw [heap_setCell_same _ g 2 _ e v2 h]; rfl
    rw [heap_setCell_same _ g 1 _ e v1 h1]; rfl
  · exact Stays.set.trans Stays.set
theorem RdS.nilX {α : Type} {sz : Nat} {R : World → List Value → α → Prop} {F : Nat → Prop} {w : World} {a : Option Addr} : RdS sz R F w (.slice a 0 0) ([] : List α) :=
  ⟨_, _, rfl, Nat.le_refl _, by simp [maxLen], fun _ => rfl, fun i x h => by simp at h⟩
end Go.Mh
namespace Go.Proofs.YtckdlhgeelhnmaaGreat
open Go.RowKit Go.Mh

set_option maxRecDepth 100000 in
set_option maxHeartbeats 4000000 in
theorem svTakeQ_any (B : Nat) (a l n ov : Value) (s : Srv) (rev : Int) (x : En) (w : World) (hB : B ≤ w.heap.size) (h1 : RItems (fun k => l.ownBlock ≠ some k) w a s.first) (h2 : OwnS B 41 3 (REn fun k => l.ownBlock ≠ some k) w l s.log) (h3 : RItems (fun k => l.ownBlock ≠ some k) w n s.now) (g : ROp (· < B) w ov x.o) (h60 : s.log.length ≤ 60) :
    Calls Tryz.prog 45 #[.agg #[a, l, n], .int .i64 rev, .agg #[.int .i64 x.client, .int .i64 x.seq, ov]] w fun e w' => ∃ v', e = .returned (.tuple #[v', .int .i64 (takeQ s rev x).2]) ∧ RSrv (fun _ => True) w' v' (takeQ s rev x).1 ∧ Below B w w' := by
  obtain ⟨aa, ac, rfl, _⟩ := RdS.len h1
  obtain ⟨na, nc, rfl, _⟩ := RdS.len h3
  obtain ⟨la, lc, rfl, hlc⟩ := RdS.len h2.rd
  obtain ⟨oa, oc, rfl, _⟩ := RdS.len g
  obtain ⟨w1, hw1⟩ : ∃ w1, w1 = ((w.alloc (.cells #[.slice aa s.first.length ac, .slice la s.log.length lc, .slice na s.now.length nc] 37)).alloc (.cells #[.int .i64 x.client, .int .i64 x.seq, .slice oa x.o.length oc] 41)).alloc svZero := ⟨_, rfl⟩
  have hb1 : Below w.heap.size w w1 := by rw [hw1]; exact bal (bal (bal (brf w) _) _) _
  have hG := Lib.hid (by rw [hw1]; exact ((brf _).alloc (Nat.le_refl _) _ |>.block _ (by simp; omega)).trans (heap_at2 rfl) : w1.heap[w.heap.size]? = some (.cells #[.slice aa s.first.length ac, .slice la s.log.length lc, .slice na s.now.length nc] 37 (0, 0)))
  have hX := Lib.hid (by rw [hw1]; exact heap_at2 (by simp) : w1.heap[w.heap.size + 1]? = some (.cells #[.int .i64 x.client, .int .i64 x.seq, .slice oa x.o.length oc] 41 (0, 0)))
  have hR := Lib.hid (by rw [hw1]; exact heap_at (by simp) : w1.heap[w.heap.size + 2]? = some svZero)
  have how := fun k (hk : (Value.slice la s.log.length lc).ownBlock = some k) => (h2.own_lt hk)
  have kpN : ∀ {F : Nat → Prop}, (∀ k, F k → (Value.slice la s.log.length lc).ownBlock ≠ some k) → Kp F (fun k => (Value.slice la s.log.length lc).ownBlock ≠ some k ∧ k ≠ w.heap.size ∧ k ≠ w.heap.size + 2) w w1 := fun {F} hF k hk hl => ⟨⟨hF k hk, by omega, by omega⟩, hb1.block k hl⟩
  have H1 := Lib.hid (RItems.to h1 (kpN fun k hk => hk))
  have H3 := Lib.hid (RItems.to h3 (kpN fun k hk => hk))
  have H2 := Lib.hid (OwnS.to h2 (fun k _ hl => hb1.block k hl) (fun cs y _ r => REn.to r (kpN fun k hk => hk)))
  have HO := Lib.hid (ROp.to g (kpN fun k hk he => by have := (how k he).1; omega))
  have hz2 : w.heap.size + 2 < w1.heap.size := lt_of_heap hR.out
  have hres : ∃ r, Hid (takeQ s rev x = r) := ⟨_, Lib.hid rfl⟩
  obtain ⟨⟨R1, R2⟩, hres⟩ := hres
  rw [hres.out]
  have hB1 := Lib.hid hb1
  have how' := Lib.hid how
  clear h1 h2 h3 g hb1 kpN how
  go_enter Tryz.func45, Tryz.ntmps45
  go_upto_region 1 with fail
  rw [← hw1]
  clear hw1
  obtain ⟨x0, x1, x2⟩ := P3.of hG.out
  obtain ⟨e0, e1, e2⟩ := P3.of hX.out
  obtain ⟨y0, y1, y2⟩ := P3.of hR.out
  have hfz : ∀ i, w1.frozen? ⟨w.heap.size + 2, i, none⟩ = false := fun i => Lib.frozen_of_heap hR.out _
  by_cases c1 : rev < 0 ∨ (s.log.length : Int) < rev
  · have hr := hres.out
    rw [takeQ, if_pos c1] at hr
    cases hr
    have way : decide (rev < 0) = true ∨ (decide (rev < 0) = false ∧ decide ((s.log.length : Int) < rev) = true) := by
      simp only [decide_eq_true_eq, decide_eq_false_iff_not]; omega
    clear hres c1
    rcases way with d1 | ⟨d1, d2⟩
    all_goals
      go_wp2
      obtain ⟨q1, q2⟩ := set012 hR.out (.slice none 0 0) (.slice none 0 0) (.slice none 0 0)
      generalize hwz : (((w1.setCell ⟨w.heap.size + 2, 0, none⟩ _).setCell ⟨w.heap.size + 2, 1, none⟩ _).setCell ⟨w.heap.size + 2, 2, none⟩ _) = wz at *
      obtain ⟨z0, z1, z2⟩ := P3.of q1
      exact bodyPost_ret (v := .tuple #[.agg #[.slice none 0 0, .slice none 0 0, .slice none 0 0], .int .i64 6]) (by simp [results, Tryz.results45, go_sem, z0, z1, z2]) rfl ⟨_, rfl, RSrv.zero, (hB1.out.mono hB).trans (q2.bel.mono (by omega))⟩
  · obtain ⟨r, rfl⟩ : ∃ r : Nat, rev = (r : Int) := ⟨rev.toNat, by omega⟩
    have hrl : r ≤ s.log.length := by omega
    have d1 : decide ((r : Int) < 0) = false := by simp only [decide_eq_false_iff_not]; omega
    have d2 : decide ((s.log.length : Int) < (r : Int)) = false := by simp only [decide_eq_false_iff_not]; omega
    by_cases c2 : s.log.length = 60
    · have hr := hres.out
      rw [takeQ, if_neg c1, if_pos c2] at hr
      cases hr
      have d3 : ((s.log.length : Int) == 60) = true := by simp [c2]
      clear hres c1 c2
      go_wp2
      obtain ⟨q1, q2⟩ := set012 hR.out (.slice none 0 0) (.slice none 0 0) (.slice none 0 0)
      generalize hwz : (((w1.setCell ⟨w.heap.size + 2, 0, none⟩ _).setCell ⟨w.heap.size + 2, 1, none⟩ _).setCell ⟨w.heap.size + 2, 2, none⟩ _) = wz at *
      obtain ⟨z0, z1, z2⟩ := P3.of q1
      exact bodyPost_ret (v := .tuple #[.agg #[.slice none 0 0, .slice none 0 0, .slice none 0 0], .int .i64 2]) (by simp [results, Tryz.results45, go_sem, z0, z1, z2]) rfl ⟨_, rfl, RSrv.zero, (hB1.out.mono hB).trans (q2.bel.mono (by omega))⟩
    · have hr := hres.out
      rw [takeQ, if_neg c1, if_neg c2] at hr
      simp only [Int.toNat_natCast] at hr
      have hres2 := Lib.hid hr
      have d3 : ((s.log.length : Int) == 60) = false := by simp; omega
      clear hres c1 c2 hr
      have HL := Lib.hid (RLog.to (RdS.to H2.out.rd (by decide) (fun k _ _ => ⟨trivial, rfl⟩) (fun cs y _ r => REn.to r (Kp.weak w1 fun _ _ => trivial)) : RLog (fun _ => True) w1 _ s.log) (Kp.weak w1 fun _ _ => trivial) : RLog (fun _ => True) w1 (.slice la s.log.length lc) s.log)
      go_upto_region 6 with fail
      go_cut [34, 35, 36] (fun t34 t35 t36 wx => wx = w1 ∧ ∃ da dc, t34 = .slice da (s.log.length - r) dc ∧ t35 = .int .i64 ((s.log.length - r : Nat) : Int) ∧ t36 = .int .i64 0 ∧ Hid (RLog (fun _ => True) w1 (.slice da (s.log.length - r) dc) (s.log.drop r)))
      case first =>
        have hcap : s.log.length ≤ lc := by obtain ⟨_, _, e, h1, _⟩ := H2.out.rd; cases e; exact h1
        by_cases hc : lc = r
        · have hn : s.log.length = r := by omega
          clear hcap
          have hd : Hid (RLog (fun _ => True) w1 (.slice la (s.log.length - r) 0) (s.log.drop r)) := Lib.hid (by rw [← hn, List.drop_length, Nat.sub_self]; exact RdS.nilX)
          have hn' := Lib.hid hn
          clear hn
          go_wp2_with fail
          go_meet
          exact ⟨rfl, _, _, rfl, rfl, rfl, hd⟩
        · obtain ⟨gb, rfl⟩ := H2.out.shape0 (by omega)
          have hd := Lib.hid (RdS.dropC HL.out r hrl)
          rw [Nat.zero_add] at hd
          go_wp2_with fail
          go_meet
          exact ⟨rfl, _, _, rfl, rfl, rfl, hd⟩
      case rest =>
        obtain ⟨hwc, da, dc, rfl, rfl, rfl, HD⟩ := hcut
        subst hwc
        clear d1 d2 d3 HL x0 x1 x2 e0 e1 e2 y0 y1 y2 hfz
        have hg0 := lt_of_heap hG.out
        have hg1 := lt_of_heap hX.out
        go_wp2
        go_loopw [8, 36] (fun ov i wr => ∃ k : Nat, k ≤ s.log.length - r ∧ i = .int .i64 k ∧ ∃ O, ROp (fun k => (Value.slice la s.log.length lc).ownBlock ≠ some k ∧ k ≠ w.heap.size ∧ k ≠ w.heap.size + 2) wr ov O ∧ Hid (rebase x.o (s.log.drop r) = rebase O ((s.log.drop r).drop k)) ∧ Below wc.heap.size wc wr) (fun _ i _ => s.log.length - r - (intOf i).toNat)
        case atStart => exact ⟨0, Nat.zero_le _, rfl, x.o, HO.out, Lib.hid (by simp), brf _⟩
        case round =>
          obtain ⟨k, hk, rfl, O, hO, hf, hb⟩ := hrel
          obtain ⟨za, zc, rfl, _⟩ := RdS.len hO
          have hO' := Lib.hid hO
          clear hO
          by_cases hlt : k < s.log.length - r
          · obtain ⟨y, hy⟩ : ∃ y, (s.log.drop r)[k]? = some y := ⟨_, List.getElem?_eq_getElem (by simp; omega)⟩
            obtain ⟨b, o, ev, e1, hr, c0, c1, c2⟩ := RLog.at HD.out hb hy
            subst e1
            obtain ⟨ya, yc, rfl, _⟩ := RdS.len hr
            have hst := Lib.hid (rebase_step (o := O) hy)
            have hbs : b < wr.heap.size := lt_of_cell c0
            have hb0 : Below wr.heap.size wr (wr.alloc (.cells #[.int .i64 y.client, .int .i64 y.seq, .slice ya y.o.length yc] 41)) := bal (brf wr) _
            have C := Lib.hid (otTurn_any _ _ _ _ y.o O _ (ROp.to hr (Kp.below (btr hb hb0))) (ROp.to hO'.out (Kp.below hb0)))
            clear hr hy
            by_cases he : (turnP y.o O).2.2 = 0
            · have hnx : Hid (rebase x.o (s.log.drop r) = rebase (turnP y.o O).2.1 ((s.log.drop r).drop (k + 1))) := Lib.hid (by rw [hf.out, hst.out, if_neg (by simpa using he)])
              rw [he] at C
              clear he hst hf
              go_wp2_with fail
              refine C.out.mono ?_
              rintro e w3 ⟨r3, s3, rfl, _, hs3, hb3⟩
              have B3 := Lib.hid (btr (btr hb hb0) hb3)
              have hfr := Lib.hid (ROp.to hs3 (frOwn (by decide) (OwnS.to H2.out (fun k _ hl => B3.out.block k hl) (fun cs y _ r => REn.to r (Kp.below B3.out))) ((B3.out.block _ hg0).trans hG.out) (by decide) ((B3.out.block _ hz2).trans hR.out) (by decide) (fun k hk => by have := (how'.out k hk).2; have := hB1.out.size; have := (btr hb hb0).size; omega) (by have := (btr hb hb0).size; omega) (by have := (btr hb hb0).size; omega)))
              obtain ⟨ta, tc, rfl, _⟩ := RdS.len hs3
              clear hs3 hb3 C c0 c1 c2
              go_wp2
              go_roundw
              case rel => exact ⟨k + 1, by omega, by go_num, _, hfr.out, hnx, B3.out⟩
              case measure => simp [intOf]; omega
            · have hnx : rebase x.o (s.log.drop r) = ([], (turnP y.o O).2.2) := by rw [hf.out, hst.out, if_pos he]
              have hF := hres2.out
              simp only [hnx] at hF
              rw [if_pos he] at hF
              cases hF
              have he' : ((turnP y.o O).2.2 != 0) = true := by simpa using he
              clear he hst hf hnx hres2
              go_wp2_with fail
              refine C.out.mono ?_
              rintro e w3 ⟨r3, s3, rfl, _, hs3, hb3⟩
              have B3 := Lib.hid (btr (btr hb hb0) hb3)
              have Y := Lib.hid ((B3.out.block _ hz2).trans hR.out)
              have hzr := lt_of_heap Y.out
              have hfz : ∀ i, w3.frozen? ⟨w.heap.size + 2, i, none⟩ = false := fun i => Lib.frozen_of_heap Y.out _
              obtain ⟨y0, y1, y2⟩ := P3.of Y.out
              clear hs3 hb3 C c0 c1 c2
              go_wp2
              obtain ⟨q1, q2⟩ := set012 Y.out (.slice none 0 0) (.slice none 0 0) (.slice none 0 0)
              generalize hwz : (((w3.setCell ⟨w.heap.size + 2, 0, none⟩ _).setCell ⟨w.heap.size + 2, 1, none⟩ _).setCell ⟨w.heap.size + 2, 2, none⟩ _) = wz at *
              obtain ⟨z0, z1, z2⟩ := P3.of q1
              exact bodyPost_ret (v := .tuple #[.agg #[.slice none 0 0, .slice none 0 0, .slice none 0 0], .int .i64 (turnP y.o O).2.2]) (by simp [results, Tryz.results45, go_sem, z0, z1, z2]) rfl ⟨_, rfl, RSrv.zero, ((hB1.out.mono hB).trans (B3.out.mono (Nat.le_trans hB hB1.out.size))).trans (q2.bel.mono (by omega))⟩
          · obtain rfl : k = s.log.length - r := by omega
            have hend : rebase x.o (s.log.drop r) = (O, 0) := by rw [hf.out, List.drop_eq_nil_of_le (by simp), rebase]
            have hF := hres2.out
            simp only [hend, ne_eq, not_true_eq_false, if_false] at hF
            have hR3 := Lib.hid hF
            clear hF hf hres2 hend
            have G' := Lib.hid ((hb.block _ hg0).trans hG.out)
            obtain ⟨x0, x1, x2⟩ := P3.of G'.out
            have C := Lib.hid (opApply_any _ _ _ _ s.now O wr (RItems.to H3.out (Kp.below hb)) hO'.out)
            by_cases he : (applyP s.now O).2 = 0
            · have hok := Lib.hid (Applies.of he)
              have hF := hR3.out
              rw [if_neg (by simpa using he)] at hF
              cases hF
              rw [he] at C
              clear he hR3
              go_wp2_with fail
              refine C.out.mono ?_
              rintro e w4 ⟨r4, rfl, hr4, hb4⟩
              have B4 := Lib.hid (btr hb hb4)
              have b4 := Lib.hid hb4
              have D4 := Lib.hid (RItems.to hr4 (fun k hk _ => ⟨⟨fun he => by have := (how'.out k he).2; have := hB1.out.size; have := hb.size; have h' : wr.heap.size ≤ k := hk; omega, by have := hb.size; have h' : wr.heap.size ≤ k := hk; omega, by have := hb.size; have h' : wr.heap.size ≤ k := hk; omega⟩, rfl⟩) : RItems (fun k => (Value.slice la s.log.length lc).ownBlock ≠ some k ∧ k ≠ w.heap.size ∧ k ≠ w.heap.size + 2) w4 r4 (applyP s.now O).1)
              obtain ⟨ra, rc, rfl, _⟩ := RdS.len hr4
              have G4 := Lib.hid ((B4.out.block _ hg0).trans hG.out)
              have X4 := Lib.hid ((B4.out.block _ hg1).trans hX.out)
              have O4 := Lib.hid (ROp.to hO'.out (Kp.below hb4))
              clear hr4 hb4 C x0 x1 x2 hb
              go_upto_region 17 with fail
              obtain ⟨x0, x1, x2⟩ := P3.of G4.out
              obtain ⟨e0, e1, e2⟩ := P3.of X4.out
              have Q0 : w4.drew.cell? ⟨w.heap.size, 1, none⟩ = some (.slice la s.log.length lc) ∧ w4.drew.cell? ⟨w.heap.size + 1, 0, none⟩ = some (.int .i64 x.client) ∧ w4.drew.cell? ⟨w.heap.size + 1, 1, none⟩ = some (.int .i64 x.seq) := kpT ⟨x1, e0, e1⟩ (brf w4).drew
              have b40 : Below w4.heap.size w4 w4.drew := (brf w4).drew
              clear x0 x1 x2 e0 e1 e2
              refine wp_region_B 13 (fun w' => w'.cell? ⟨w.heap.size, 1, none⟩ = some (.slice la s.log.length lc) ∧ w'.cell? ⟨w.heap.size + 1, 0, none⟩ = some (.int .i64 x.client) ∧ w'.cell? ⟨w.heap.size + 1, 1, none⟩ = some (.int .i64 x.seq)) (by kernel_rfl) ?_
              refine wpAnyT_take 6 0 (v := .slice ra (applyP s.now O).1.length rc) rfl (by kernel_rfl) (by kernel_rfl) (by kernel_rfl) (by kernel_rfl) (by kernel_rfl) (by kernel_rfl) (by decide) (fun _ _ _ h => h) (Or.inl ⟨by rfl, fun w' hw' => ?_⟩) Q0 ?_
              · (try dsimp only at hw'); go_simp
              simp only [Act.put, List.setIfInBounds_toArray]
              refine wpAnyT_take 6 1 (v := .pointer (some ⟨w.heap.size, 1, none⟩)) rfl (by kernel_rfl) (by kernel_rfl) (by kernel_rfl) (by kernel_rfl) (by kernel_rfl) (by kernel_rfl) (by decide) (fun _ _ _ h => h) (Or.inl ⟨by rfl, fun w' hw' => ?_⟩) Q0 ?_
              · (try dsimp only at hw'); go_simp
              simp only [Act.put]
              refine wpAnyT_take 6 3 (v := .pointer (some ⟨w.heap.size + 1, 0, none⟩)) rfl (by kernel_rfl) (by kernel_rfl) (by kernel_rfl) (by kernel_rfl) (by kernel_rfl) (by kernel_rfl) (by decide) (fun _ _ _ h => h) (Or.inl ⟨by rfl, fun w' hw' => ?_⟩) Q0 ?_
              · (try dsimp only at hw'); go_simp
              simp only [Act.put]
              refine wpAnyT_take 6 5 (v := .pointer (some ⟨w.heap.size + 1, 1, none⟩)) rfl (by kernel_rfl) (by kernel_rfl) (by kernel_rfl) (by kernel_rfl) (by kernel_rfl) (by kernel_rfl) (by decide) (fun _ _ _ h => h) (Or.inl ⟨by rfl, fun w' hw' => ?_⟩) Q0 ?_
              · (try dsimp only at hw'); go_simp
              simp only [Act.put]
              refine wpAnyT_take 6 7 (v := .slice za O.length zc) rfl (by kernel_rfl) (by kernel_rfl) (by kernel_rfl) (by kernel_rfl) (by kernel_rfl) (by kernel_rfl) (by decide) (fun _ _ _ h => h) (Or.inl ⟨by rfl, fun w' hw' => ?_⟩) Q0 ?_
              · (try dsimp only at hw'); go_simp
              simp only [Act.put]
              refine wpAnyT_take 6 2 (v := .slice la s.log.length lc) rfl (by kernel_rfl) (by kernel_rfl) (by kernel_rfl) (by kernel_rfl) (by kernel_rfl) (by kernel_rfl) (by decide) (fun _ _ _ h => h) (Or.inl ⟨by rfl, fun w' hw' => ?_⟩) Q0 ?_
              · (try dsimp only at hw'); go_simp
              simp only [Act.put]
              refine wpAnyT_take 6 4 (v := .int .i64 x.client) rfl (by kernel_rfl) (by kernel_rfl) (by kernel_rfl) (by kernel_rfl) (by kernel_rfl) (by kernel_rfl) (by decide) (fun _ _ _ h => h) (Or.inl ⟨by rfl, fun w' hw' => ?_⟩) Q0 ?_
              · (try dsimp only at hw'); go_simp
              simp only [Act.put]
              refine wpAnyT_take 6 6 (v := .int .i64 x.seq) rfl (by kernel_rfl) (by kernel_rfl) (by kernel_rfl) (by kernel_rfl) (by kernel_rfl) (by kernel_rfl) (by decide) (fun _ _ _ h => h) (Or.inl ⟨by rfl, fun w' hw' => ?_⟩) Q0 ?_
              · (try dsimp only at hw'); go_simp
              simp only [Act.put]
              refine wpAnyT_take 6 12 (v := .pointer (some ⟨w.heap.size, 2, none⟩)) rfl (by kernel_rfl) (by kernel_rfl) (by kernel_rfl) (by kernel_rfl) (by kernel_rfl) (by kernel_rfl) (by decide) (fun _ _ _ h => h) (Or.inl ⟨by rfl, fun w' hw' => ?_⟩) Q0 ?_
              · (try dsimp only at hw'); go_simp
              simp only [Act.put]
              refine wpAnyB_step 8 rfl (by kernel_rfl) (fun K' hK' => ?_)
              rw [if_pos (by rfl)]
              go_simp
              go_at_call 81
              refine (opCopy_any _ _ O _ (ROp.to O4.out (Kp.below b40)) (by have := (chkOp_ok hok.out.op).len; omega) (fun p hp => by have := (chkOp_ok hok.out.op).i80 p hp; omega)).mono ?_
              rintro e w5 ⟨v5, rfl, hr5, hb5⟩
              have Q5 := kpT Q0 hb5
              obtain ⟨va, vc, rfl, _⟩ := RdS.len hr5
              go_wp2_with fail
              refine hK'.out _ _ Q5 ?_
              clear hK' K'
              refine wpAnyT_take 6 9 (v := .agg #[.int .i64 x.client, .int .i64 x.seq, .slice va O.length vc]) rfl (by kernel_rfl) (by kernel_rfl) (by kernel_rfl) (by kernel_rfl) (by kernel_rfl) (by kernel_rfl) (by decide) (fun _ _ _ h => h) (Or.inl ⟨by rfl, fun w' hw' => ?_⟩) Q5 ?_
              · (try dsimp only at hw'); go_simp
              simp only [Act.put, List.setIfInBounds_toArray]
              refine wpAnyB_step 10 rfl (by kernel_rfl) (fun K' hK' => ?_)
              rw [if_pos (by rfl)]
              go_simp
              have hb6 : Below w5.heap.size w5 (w5.alloc (.cells #[.int .i64 x.client, .int .i64 x.seq, .slice va O.length vc] 41)) := bal (brf w5) _
              have Q6 := kpT Q5 hb6
              refine hK'.out _ _ Q6 ?_
              clear hK' K'
              have b46 : Below w4.heap.size w4 (w5.alloc (.cells #[.int .i64 x.client, .int .i64 x.seq, .slice va O.length vc] 41)) := btr (btr b40 hb5) hb6
              have z46 := b46.size
              have zc4 := B4.out.size
              have zc := hB1.out.size
              have O5 := Lib.hid (ROp.to hr5 (fun k hk hl => ⟨(by
                rcases hk with hk | hk
                · have hk' : w4.heap.size ≤ k := hk
                  exact ⟨fun he => by have := (how'.out k he).2; omega, by omega, by omega⟩
                · exact hk), hb6.block k hl⟩) : ROp (fun k => (Value.slice la s.log.length lc).ownBlock ≠ some k ∧ k ≠ w.heap.size ∧ k ≠ w.heap.size + 2) (w5.alloc (.cells #[.int .i64 x.client, .int .i64 x.seq, .slice va O.length vc] 41)) (.slice va O.length vc) O)
              have hNew : (w5.alloc (.cells #[.int .i64 x.client, .int .i64 x.seq, .slice va O.length vc] 41)).heap[w5.heap.size]? = some (.cells #[.int .i64 x.client, .int .i64 x.seq, .slice va O.length vc] 41 (0, 0)) := heap_new _ _
              have b6w := b46
              generalize hw6 : w5.alloc (.cells #[.int .i64 x.client, .int .i64 x.seq, .slice va O.length vc] 41) = w6 at *
              clear hw6
              have BB := Lib.hid (btr B4.out b46)
              have own6 := Lib.hid (OwnS.to H2.out (fun k _ hl => BB.out.block k hl) (fun cs y _ r => REn.to r (Kp.below BB.out)))
              have G6 := Lib.hid ((BB.out.block _ hg0).trans hG.out)
              have X6 := Lib.hid ((BB.out.block _ hg1).trans hX.out)
              have Y6 := Lib.hid ((BB.out.block _ hz2).trans hR.out)
              refine wpAnyB_step 11 rfl (by kernel_rfl) (fun K' hK' => ?_)
              refine step_app rfl (.tmp 66) (.tmp 74) 35 rfl B 41 3 40 _ elLog (REn (fun k => (Value.slice la s.log.length lc).ownBlock ≠ some k ∧ k ≠ w.heap.size ∧ k ≠ w.heap.size + 2)) (.slice la s.log.length lc) s.log [⟨x.client, x.seq, O⟩] (by rfl) own6.out (fun _ => True) (.slice (some ⟨w5.heap.size, 0, none⟩) 1 1) (by rfl) (RE_src hNew O5.out) (REn_one _) (by simp [maxLen]; omega) (by simp; omega) (by omega) (fun w' hg cs y _ r => REn.to r fun k hF hk => ⟨hF, hg.block k hk (Ne.symm hF.1)⟩) ?_
              intro v7 w7 ho7 hg7 hb7
              obtain ⟨ya, yc, rfl, _⟩ := RdS.len ho7.rd
              have hln : (s.log ++ [(⟨x.client, x.seq, O⟩ : En)]).length = s.log.length + 1 := by simp
              rw [hln] at ho7
              rw [hln]
              have G7 := Lib.hid ((hg7.block _ (lt_of_heap G6.out) (own6.out.ne G6.out (by decide))).trans G6.out)
              have X7 := Lib.hid ((hg7.block _ (lt_of_heap X6.out) (fun he => by have := (how'.out _ he.symm).2; omega)).trans X6.out)
              have Y7 := Lib.hid ((hg7.block _ (lt_of_heap Y6.out) (own6.out.ne Y6.out (by decide))).trans Y6.out)
              have ho7' := Lib.hid ho7
              have Q7 : w7.cell? ⟨w.heap.size, 1, none⟩ = some (.slice la s.log.length lc) ∧ w7.cell? ⟨w.heap.size + 1, 0, none⟩ = some (.int .i64 x.client) ∧ w7.cell? ⟨w.heap.size + 1, 1, none⟩ = some (.int .i64 x.seq) := ⟨(P3.of G7.out).2.1, (P3.of X7.out).1, (P3.of X7.out).2.1⟩
              have hfz : ∀ i, w7.frozen? ⟨w.heap.size, i, none⟩ = false := fun i => Lib.frozen_of_heap G7.out _
              have hz7 := lt_of_heap G7.out
              obtain ⟨t0, t1, t2⟩ := P3.of G7.out
              refine hK'.out _ _ Q7 ?_
              clear hK' K' ho7 Q0 Q5 Q6 Q7
              refine wpAnyB_last 13 rfl (by kernel_rfl) (by kernel_rfl) (fun K' hK' => ?_)
              rw [if_pos (by rfl)]
              go_simp
              refine hK'.out _ _ ?_
              clear hK' K'
              refine wpAnyB_last 14 rfl (by kernel_rfl) (by kernel_rfl) (fun K' hK' => ?_)
              rw [if_pos (by rfl)]
              go_simp
              refine hK'.out _ _ ?_
              clear hK' K'
              refine wpAnyB_last 15 rfl (by kernel_rfl) (by kernel_rfl) (fun K' hK' => ?_)
              rw [if_pos (by rfl)]
              go_simp
              refine hK'.out _ _ ?_
              clear hK' K'
              refine wpAnyB_done (by kernel_rfl) ?_ _
              have s12 := set21 G7.out (.slice ra (applyP s.now O).1.length rc) (.slice ya (s.log.length + 1) yc)
              go_upto_region 18 with fail
              generalize hw8 : ((w7.setCell ⟨w.heap.size, 2, none⟩ _).setCell ⟨w.heap.size, 1, none⟩ _) = w8 at *
              clear hw8
              obtain ⟨s1, s2⟩ := s12
              have Y8 := Lib.hid ((s2.same _ (lt_of_heap Y7.out) (by omega)).trans Y7.out)
              obtain ⟨t0, t1, t2⟩ := P3.of s1
              obtain ⟨y0, y1, y2⟩ := P3.of Y8.out
              have hfz8 : ∀ i, w8.frozen? ⟨w.heap.size + 2, i, none⟩ = false := fun i => Lib.frozen_of_heap Y8.out _
              have hz8 := lt_of_heap Y8.out
              clear hfz
              go_wp2
              obtain ⟨q1, q2⟩ := set012 Y8.out (.slice aa s.first.length ac) (.slice ya (s.log.length + 1) yc) (.slice ra (applyP s.now O).1.length rc)
              generalize hwz : (((w8.setCell ⟨w.heap.size + 2, 0, none⟩ _).setCell ⟨w.heap.size + 2, 1, none⟩ _).setCell ⟨w.heap.size + 2, 2, none⟩ _) = wz at *
              obtain ⟨z0, z1, z2⟩ := P3.of q1
              have k68 : ∀ k, (fun k => (Value.slice la s.log.length lc).ownBlock ≠ some k ∧ k ≠ w.heap.size ∧ k ≠ w.heap.size + 2) k → k < w6.heap.size → wz.heap[k]? = w6.heap[k]? := fun k hk hl => by
                have h7 := hg7.block k hl (Ne.symm hk.1)
                have l7 : k < w7.heap.size := Nat.lt_of_lt_of_le hl hb7.size
                have h8 := s2.same k l7 hk.2.1
                have l8 : k < w8.heap.size := Nat.lt_of_lt_of_le l7 s2.bel.size
                exact ((q2.same k l8 hk.2.2).trans h8).trans h7
              have kA : Kp (fun k => (Value.slice la s.log.length lc).ownBlock ≠ some k ∧ k ≠ w.heap.size ∧ k ≠ w.heap.size + 2) (fun _ => True) wc wz := fun k hF hk => ⟨trivial, (k68 k hF (Nat.lt_of_lt_of_le hk BB.out.size)).trans (BB.out.block k hk)⟩
              have kN : Kp (fun k => (Value.slice la s.log.length lc).ownBlock ≠ some k ∧ k ≠ w.heap.size ∧ k ≠ w.heap.size + 2) (fun _ => True) w4 wz := fun k hF hk => ⟨trivial, (k68 k hF (Nat.lt_of_lt_of_le hk b6w.size)).trans (b6w.block k hk)⟩
              have n7 := ho7'.out.ne G7.out (by decide)
              have n7' := ho7'.out.ne Y7.out (by decide)
              have kL : ∀ k, k ≠ w.heap.size → k ≠ w.heap.size + 2 → k < w7.heap.size → wz.heap[k]? = w7.heap[k]? := fun k h1 h2 hl => (q2.same k (Nat.lt_of_lt_of_le hl s2.bel.size) h2).trans (s2.same k hl h1)
              have LZ := OwnS.to ho7'.out (fun k hk hl => kL k (fun e => by subst e; exact n7 hk.symm) (fun e => by subst e; exact n7' hk.symm) hl) (fun cs y _ r => REn.to r (fun k hF hk => ⟨hF, kL k hF.2.1 hF.2.2 hk⟩))
              have RL : RLog (fun _ => True) wz _ _ := RdS.to LZ.rd (by decide) (fun k _ _ => ⟨trivial, rfl⟩) (fun cs y _ r => REn.to r (Kp.weak wz fun _ _ => trivial))
              exact bodyPost_ret (v := .tuple #[.agg #[.slice aa s.first.length ac, .slice ya (s.log.length + 1) yc, .slice ra (applyP s.now O).1.length rc], .int .i64 0]) (by simp [results, Tryz.results45, go_sem, z0, z1, z2]) rfl ⟨_, rfl, ⟨_, _, _, rfl, RItems.to H1.out kA, RL, RItems.to D4.out kN⟩, ((((hB1.out.mono hB).trans (BB.out.mono (Nat.le_trans hB hB1.out.size))).trans hb7).trans (s2.bel.mono hB)).trans (q2.bel.mono (by omega))⟩
            · have hF := hR3.out
              rw [if_pos he] at hF
              cases hF
              have he' : ((applyP s.now O).2 != 0) = true := by simpa using he
              clear he hR3
              go_wp2_with fail
              refine C.out.mono ?_
              rintro e w3 ⟨r3, rfl, hr3, hb3⟩
              have B3 := Lib.hid (btr hb hb3)
              have Y := Lib.hid ((B3.out.block _ hz2).trans hR.out)
              have hzr := lt_of_heap Y.out
              have hfz : ∀ i, w3.frozen? ⟨w.heap.size + 2, i, none⟩ = false := fun i => Lib.frozen_of_heap Y.out _
              obtain ⟨y0, y1, y2⟩ := P3.of Y.out
              clear hr3 hb3 C x0 x1 x2
              go_wp2
              obtain ⟨q1, q2⟩ := set012 Y.out (.slice none 0 0) (.slice none 0 0) (.slice none 0 0)
              generalize hwz : (((w3.setCell ⟨w.heap.size + 2, 0, none⟩ _).setCell ⟨w.heap.size + 2, 1, none⟩ _).setCell ⟨w.heap.size + 2, 2, none⟩ _) = wz at *
              obtain ⟨z0, z1, z2⟩ := P3.of q1
              exact bodyPost_ret (v := .tuple #[.agg #[.slice none 0 0, .slice none 0 0, .slice none 0 0], .int .i64 (applyP s.now O).2]) (by simp [results, Tryz.results45, go_sem, z0, z1, z2]) rfl ⟨_, rfl, RSrv.zero, ((hB1.out.mono hB).trans (B3.out.mono (Nat.le_trans hB hB1.out.size))).trans (q2.bel.mono (by omega))⟩
end Go.Proofs.YtckdlhgeelhnmaaGreat
