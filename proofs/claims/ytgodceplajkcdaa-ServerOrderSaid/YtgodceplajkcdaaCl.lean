/- Clients in memory: as values, and in a block of their own; package client: Check, New, give. -/
import Derived.Test.YtgodceplajkcdaaPlE
import Derived.Test.YtgodceplajkcdaaOpApply
import Derived.Test.YtgodceplajkcdaaOtC
import Derived.Test.YtgodceplajkcdaaLDocSays
namespace Go.Mh
open Go.RowKit

/-- A client as a value. -/
def RCl (F : Nat → Prop) (w : World) (v : Value) (c : Cl) : Prop :=
  ∃ b n s h, v = .agg #[.int .i64 c.rev, b, n, .int .i64 c.seq, s, h, .bool c.joined] ∧ RItems F w b c.base ∧ RItems F w n c.now ∧ ROp F w s c.sent ∧ ROp F w h c.held
theorem RCl.to {F F' : Nat → Prop} {w w' : World} {v : Value} {c : Cl} (h : RCl F w v c) (k : Kp F F' w w') : RCl F' w' v c := by
  obtain ⟨b, n, s, g, e, h1, h2, h3, h4⟩ := h
  exact ⟨b, n, s, g, e, RItems.to h1 k, RItems.to h2 k, ROp.to h3 k, ROp.to h4 k⟩
/-- A client in block g; what it has lies in blocks of F: g is none of them, all new ones are. -/
def CAt (e : TypeId) (F : Nat → Prop) (w : World) (g : Nat) (c : Cl) : Prop :=
  ¬ F g ∧ (∀ k, w.heap.size ≤ k → F k) ∧ ∃ b n s h, w.heap[g]? = some (.cells #[.int .i64 c.rev, b, n, .int .i64 c.seq, s, h, .bool c.joined] e (0, 0)) ∧ RItems F w b c.base ∧ RItems F w n c.now ∧ ROp F w s c.sent ∧ ROp F w h c.held
theorem CAt.lt {e : TypeId} {F : Nat → Prop} {w : World} {g : Nat} {c : Cl} (h : CAt e F w g c) : g < w.heap.size := by obtain ⟨_, _, b, n, s, k, h, _⟩ := h; exact lt_of_heap h
theorem kp_stays {F : Nat → Prop} {w w' : World} {g : Nat} (hF : ¬ F g) (h : Stays g w w') : Kp F F w w' := fun k hk hl => ⟨hk, h.same k hl fun e => hF (e ▸ hk)⟩
theorem CAt.below {e : TypeId} {F : Nat → Prop} {w w' : World} {g : Nat} {c : Cl} (h : CAt e F w g c) (hb : Below w.heap.size w w') : CAt e F w' g c := by
  have hg := h.lt
  obtain ⟨hF, hN, b, n, s, k, h0, h1, h2, h3, h4⟩ := h
  exact ⟨hF, fun k hk => hN k (Nat.le_trans hb.size hk), b, n, s, k, (hb.block g hg).trans h0, RItems.to h1 (Kp.below hb), RItems.to h2 (Kp.below hb), ROp.to h3 (Kp.below hb), ROp.to h4 (Kp.below hb)⟩
theorem CAt.val {e : TypeId} {F : Nat → Prop} {w : World} {g : Nat} {c : Cl} (h : CAt e F w g c) : ∃ b n s k, w.heap[g]? = some (.cells #[.int .i64 c.rev, b, n, .int .i64 c.seq, s, k, .bool c.joined] e (0, 0)) ∧ RCl F w (.agg #[.int .i64 c.rev, b, n, .int .i64 c.seq, s, k, .bool c.joined]) c := by
  obtain ⟨_, _, b, n, s, k, h0, h1, h2, h3, h4⟩ := h
  exact ⟨b, n, s, k, h0, b, n, s, k, rfl, h1, h2, h3, h4⟩

theorem owns_s1 {d : List It} {s : List Pt} (hs : s ≠ []) (h : (applyP d s).2 = 0) : ownsP d s [] = ((applyP d s).1, 0) := by
  simp only [ownsP, if_neg hs, h]
  simp [← h]
theorem owns_e1 {d : List It} {s k : List Pt} (hs : s ≠ []) (h : (applyP d s).2 ≠ 0) : ownsP d s k = ([], (applyP d s).2) := by
  simp only [ownsP, if_neg hs, if_pos h]
theorem owns_s2 {d e : List It} {s k : List Pt} (hs : s ≠ []) (hk : k ≠ []) (h : ownsP d s [] = (e, 0)) : ownsP d s k = applyP e k := by
  by_cases h1 : (applyP d s).2 = 0
  · rw [owns_s1 hs h1] at h
    cases h
    simp only [ownsP, if_neg hs, h1, if_neg hk]
    simp
  · rw [owns_e1 hs h1] at h
    simp at h
    exact absurd h.2 h1
theorem owns_0 (d : List It) : ownsP d [] [] = (d, 0) := by simp [ownsP]
theorem chkCl_rest {c : Cl} (h1 : ¬ (c.rev < 0 ∨ 60 < c.rev ∨ c.seq < 0 ∨ 10000 < c.seq)) (h2 : chkDoc c.base = 0) (h3 : ¬ ((c.sent = [] ∧ c.held ≠ []) ∨ (c.sent ≠ [] ∧ c.seq = 0))) :
    chkCl c = if (ownsP c.base c.sent c.held).2 ≠ 0 then (ownsP c.base c.sent c.held).2 else if (ownsP c.base c.sent c.held).1 = c.now then 0 else 4 := by
  simp only [chkCl, if_neg h1, if_neg h3, h2]; simp
end Go.Mh
namespace Go.Proofs.Ytgodceplajkcdaa
open Go.RowKit Go.Mh

theorem len0_true {L : List Pt} (h : L = []) : ((L.length : Int) == 0) = true := by simp [h]
theorem len0_false {L : List Pt} (h : L ≠ []) : ((L.length : Int) == 0) = false := by simpa using h
theorem lpos_true {L : List Pt} (h : L ≠ []) : 0 < L.length := List.length_pos_iff.2 h
theorem lpos_false {L : List Pt} (h : L = []) : ¬ 0 < L.length := by simp [h]

set_option maxRecDepth 100000 in
set_option maxHeartbeats 4000000 in
theorem clCheck_any (F : Nat → Prop) (v : Value) (c : Cl) (w : World) (h : RCl F w v c) :
    Calls Try.prog 63 #[v] w fun e w' => e = .returned (.int .i64 (chkCl c)) ∧ Below w.heap.size w w' := by
  obtain ⟨b, n, s, g, rfl, hb, hn, hs, hg⟩ := h
  obtain ⟨ba, bc, rfl, _⟩ := RdS.len hb
  obtain ⟨na, nc, rfl, _⟩ := RdS.len hn
  obtain ⟨sa, sc, rfl, _⟩ := RdS.len hs
  obtain ⟨ga, gc, rfl, _⟩ := RdS.len hg
  have HB := Lib.hid hb
  have HN := Lib.hid hn
  have HS := Lib.hid hs
  have HG := Lib.hid hg
  clear hb hn hs hg
  have i0 := fun w => idx2_0 (.slice sa c.sent.length sc) (.slice ga c.held.length gc) w
  have i1 := fun w => idx2_1 (.slice sa c.sent.length sc) (.slice ga c.held.length gc) w
  have hrest := Lib.hid (chkCl_rest (c := c))
  have hdef : Hid (chkCl c = chkCl c) := Lib.hid rfl
  obtain ⟨r, hr⟩ : ∃ r, Hid (chkCl c = r) := ⟨_, Lib.hid rfl⟩
  clear hdef
  rw [hr.out]
  go_enter Try.func63, Try.ntmps63
  by_cases h1 : c.rev < 0 ∨ 60 < c.rev ∨ c.seq < 0 ∨ 10000 < c.seq
  · have e := hr.out
    rw [chkCl, if_pos h1] at e
    subst e
    have way : decide (c.rev < 0) = true ∨ (decide (c.rev < 0) = false ∧ decide (60 < c.rev) = true) ∨ (decide (c.rev < 0) = false ∧ decide (60 < c.rev) = false ∧ decide (c.seq < 0) = true) ∨ (decide (c.rev < 0) = false ∧ decide (60 < c.rev) = false ∧ decide (c.seq < 0) = false ∧ decide (10000 < c.seq) = true) := by
      simp only [decide_eq_true_eq, decide_eq_false_iff_not]; omega
    clear hr hrest h1
    rcases way with d1 | ⟨d1, d2⟩ | ⟨d1, d2, d3⟩ | ⟨d1, d2, d3, d4⟩
    all_goals
      go_wp2
      go_ret
      exact ⟨rfl, bal (brf w) _⟩
  · obtain ⟨d1, d2, d3, d4⟩ : decide (c.rev < 0) = false ∧ decide (60 < c.rev) = false ∧ decide (c.seq < 0) = false ∧ decide (10000 < c.seq) = false := by
      simp only [decide_eq_false_iff_not]; omega
    have hb0 : Below w.heap.size w (w.alloc (.cells #[.int .i64 c.rev, .slice ba c.base.length bc, .slice na c.now.length nc, .int .i64 c.seq, .slice sa c.sent.length sc, .slice ga c.held.length gc, .bool c.joined] 87)) := bal (brf w) _
    have hcell := Lib.hid (heap_new w (.cells #[.int .i64 c.rev, .slice ba c.base.length bc, .slice na c.now.length nc, .int .i64 c.seq, .slice sa c.sent.length sc, .slice ga c.held.length gc, .bool c.joined] 87))
    go_wp2_with fail
    refine (check_any F _ c.base _ (HB.out.to (Kp.below hb0))).mono ?_
    rintro e w1 ⟨rfl, hb1⟩
    have hB1 := btr hb0 hb1
    have hblk := Lib.hid ((hb1.block w.heap.size (by simp)).trans hcell.out)
    have hw1 : w.heap.size < w1.heap.size := lt_of_heap hblk.out
    clear hb0 hb1 hcell
    obtain ⟨x0, x1, x2, x3, x4, x5, x6⟩ := P7.of hblk.out
    by_cases h2 : chkDoc c.base = 0
    · have h12 := Lib.hid (hrest.out h1 h2)
      rw [h2]
      have h1' := Lib.hid h1
      have h2' := Lib.hid h2
      clear h1 h2 hrest
      by_cases h3 : (c.sent = [] ∧ c.held ≠ []) ∨ (c.sent ≠ [] ∧ c.seq = 0)
      · have e := hr.out
        rw [chkCl, if_neg h1'.out, h2'.out, if_neg (by simp), if_pos h3] at e
        subst e
        rcases h3 with ⟨s1, s2⟩ | ⟨s1, s2⟩
        · have t1 := len0_true s1
          have t2 := lpos_true s2
          clear s1 s2 h12 hr
          go_wp2
          go_ret
          exact ⟨rfl, hB1⟩
        · have t1 := len0_false s1
          have t2 := lpos_true s1
          have t3 : (c.seq == 0) = true := by simpa using s2
          clear s1 s2 h12 hr
          go_wp2
          go_ret
          exact ⟨rfl, hB1⟩
      · have hrs := Lib.hid (h12.out h3)
        have e := hrs.out
        rw [hr.out] at e
        have hE := Lib.hid e
        have hsh : Hid (c.sent = [] → c.held = []) := Lib.hid fun h => Decidable.byContradiction fun h' => h3 (Or.inl ⟨h, h'⟩)
        have way : (((c.sent.length : Int) == 0) = true ∧ ¬ 0 < c.held.length ∧ ¬ 0 < c.sent.length) ∨ (((c.sent.length : Int) == 0) = false ∧ 0 < c.sent.length ∧ (c.seq == 0) = false) := by
          by_cases hs : c.sent = []
          · exact Or.inl ⟨len0_true hs, lpos_false (hsh.out hs), lpos_false hs⟩
          · exact Or.inr ⟨len0_false hs, lpos_true hs, by simp; exact fun h => h3 (Or.inr ⟨hs, h⟩)⟩
        clear h3 h12 e hrs hr h1' h2'
        rcases way with ⟨t1, t2, t3⟩ | ⟨t1, t2, t3⟩
        all_goals
          go_wp2
          clear x0 x1 x2 x3 x4 x5 x6 t1 t2 t3
          go_loopw [4, 60] (fun dv i wr => ∃ k : Nat, k ≤ 2 ∧ i = .int .i64 k ∧ ∃ D G, RItems G wr dv D ∧ Hid (k = 0 → D = c.base) ∧ Hid (k = 1 → ownsP c.base c.sent [] = (D, 0)) ∧ Hid (k = 2 → ownsP c.base c.sent c.held = (D, 0)) ∧ wr.heap[w.heap.size]? = some (.cells #[.int .i64 c.rev, .slice ba c.base.length bc, .slice na c.now.length nc, .int .i64 c.seq, .slice sa c.sent.length sc, .slice ga c.held.length gc, .bool c.joined] 87 (0, 0)) ∧ Below w.heap.size w wr) (fun _ i _ => 2 - (intOf i).toNat)
          case atStart => exact ⟨0, by omega, rfl, c.base, F, HB.out.to (Kp.below hB1), Lib.hid (fun _ => rfl), Lib.hid (fun h => by omega), Lib.hid (fun h => by omega), hblk.out, hB1⟩
          case round =>
            obtain ⟨k, hk, rfl, D, G, hD, q0, q1, q2, hbk, hbr⟩ := hrel
            obtain ⟨da, dc, rfl, _⟩ := RdS.len hD
            have hD' := Lib.hid hD
            have hbk' := Lib.hid hbk
            clear hD hbk
            rcases (by omega : k = 0 ∨ k = 1 ∨ k = 2) with rfl | rfl | rfl
            · have e0 := Lib.hid (q0.out rfl)
              clear q0 q1 q2
              by_cases hs : c.sent = []
              · have t1 := len0_true hs
                have hn1 : Hid (ownsP c.base c.sent [] = (D, 0)) := Lib.hid (by rw [hs, e0.out, owns_0])
                clear hs e0
                go_wp2
                go_roundw
                case rel => exact ⟨1, by omega, rfl, D, G, hD'.out, Lib.hid (fun h => by omega), Lib.hid (fun _ => hn1.out), Lib.hid (fun h => by omega), hbk'.out, hbr⟩
                case measure => simp [intOf]
              · have t1 := len0_false hs
                have C := Lib.hid (opApply_any G F _ _ D c.sent wr hD'.out (ROp.to HS.out (Kp.below hbr)))
                have hw := lt_of_heap hbk'.out
                by_cases he : (applyP D c.sent).2 = 0
                · have hn1 : Hid (ownsP c.base c.sent [] = ((applyP D c.sent).1, 0)) := Lib.hid (by rw [e0.out] at he ⊢; exact owns_s1 hs he)
                  rw [he] at C
                  clear hs e0 he
                  go_wp2_with fail
                  refine C.out.mono ?_
                  rintro e w3 ⟨r3, rfl, hr3, hb3⟩
                  have hr3' := Lib.hid hr3
                  clear hr3
                  go_wp2
                  go_roundw
                  case rel => exact ⟨1, by omega, rfl, _, _, hr3'.out, Lib.hid (fun h => by omega), Lib.hid (fun _ => hn1.out), Lib.hid (fun h => by omega), (hb3.block _ hw).trans hbk'.out, hbr.trans (hb3.mono hbr.size)⟩
                  case measure => simp [intOf]
                · have hn1 : Hid (ownsP c.base c.sent c.held = ([], (applyP D c.sent).2)) := Lib.hid (by rw [e0.out] at he ⊢; exact owns_e1 hs he)
                  have e2 := hE.out
                  rw [hn1.out, if_pos he] at e2
                  subst e2
                  have he' : ((applyP D c.sent).2 != 0) = true := by simpa using he
                  clear hs e0 he hE
                  go_wp2_with fail
                  refine C.out.mono ?_
                  rintro e w3 ⟨r3, rfl, hr3, hb3⟩
                  clear hr3
                  go_wp2
                  go_ret
                  exact ⟨rfl, hbr.trans (hb3.mono hbr.size)⟩
            · have e0 := Lib.hid (q1.out rfl)
              clear q0 q1 q2
              by_cases hs : c.held = []
              · have t1 := len0_true hs
                have hn1 : Hid (ownsP c.base c.sent c.held = (D, 0)) := Lib.hid (by rw [hs]; exact e0.out)
                clear hs e0
                go_wp2
                go_roundw
                case rel => exact ⟨2, by omega, rfl, D, G, hD'.out, Lib.hid (fun h => by omega), Lib.hid (fun h => by omega), Lib.hid (fun _ => hn1.out), hbk'.out, hbr⟩
                case measure => simp [intOf]
              · have t1 := len0_false hs
                have hss : c.sent ≠ [] := fun h => hs (hsh.out h)
                have C := Lib.hid (opApply_any G F _ _ D c.held wr hD'.out (ROp.to HG.out (Kp.below hbr)))
                have hw := lt_of_heap hbk'.out
                have heq := Lib.hid (owns_s2 hss hs e0.out)
                by_cases he : (applyP D c.held).2 = 0
                · have hn1 : Hid (ownsP c.base c.sent c.held = ((applyP D c.held).1, 0)) := Lib.hid (by rw [heq.out, ← he])
                  rw [he] at C
                  clear hs hss e0 he heq
                  go_wp2_with fail
                  refine C.out.mono ?_
                  rintro e w3 ⟨r3, rfl, hr3, hb3⟩
                  have hr3' := Lib.hid hr3
                  clear hr3
                  go_wp2
                  go_roundw
                  case rel => exact ⟨2, by omega, rfl, _, _, hr3'.out, Lib.hid (fun h => by omega), Lib.hid (fun h => by omega), Lib.hid (fun _ => hn1.out), (hb3.block _ hw).trans hbk'.out, hbr.trans (hb3.mono hbr.size)⟩
                  case measure => simp [intOf]
                · have e2 := hE.out
                  rw [heq.out, if_pos he] at e2
                  subst e2
                  have he' : ((applyP D c.held).2 != 0) = true := by simpa using he
                  clear hs hss e0 he hE heq
                  go_wp2_with fail
                  refine C.out.mono ?_
                  rintro e w3 ⟨r3, rfl, hr3, hb3⟩
                  clear hr3
                  go_wp2
                  go_ret
                  exact ⟨rfl, hbr.trans (hb3.mono hbr.size)⟩
            · have e0 := Lib.hid (q2.out rfl)
              clear q0 q1 q2
              have e2 := hE.out
              rw [e0.out] at e2
              simp only [ne_eq, not_true_eq_false, if_false] at e2
              obtain ⟨x0, x1, x2, x3, x4, x5, x6⟩ := P7.of hbk'.out
              have C := Lib.hid (same_any G F _ _ D c.now wr hD'.out (HN.out.to (Kp.below hbr)))
              clear e0 hE
              by_cases he : D = c.now
              · rw [decide_eq_true he] at C
                rw [if_pos he] at e2
                subst e2
                clear he
                go_wp2_with fail
                refine C.out.mono ?_
                rintro e w3 ⟨rfl, hb3⟩
                go_wp2
                go_ret
                exact ⟨rfl, hbr.trans (hb3.mono hbr.size)⟩
              · rw [decide_eq_false he] at C
                rw [if_neg he] at e2
                subst e2
                clear he
                go_wp2_with fail
                refine C.out.mono ?_
                rintro e w3 ⟨rfl, hb3⟩
                go_wp2
                go_ret
                exact ⟨rfl, hbr.trans (hb3.mono hbr.size)⟩
    · have e := hr.out
      rw [chkCl, if_neg h1, if_pos h2] at e
      subst e
      have h2' : (chkDoc c.base != 0) = true := by simpa using h2
      clear h2 hr hrest h1
      go_wp2
      go_ret
      exact ⟨rfl, hB1⟩
end Go.Proofs.Ytgodceplajkcdaa
