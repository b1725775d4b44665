/- The references on operations: how long one is, an item changed, operations held against another. -/
import Derived.Test.YtckdlhgeelhnmaaGreatOpLong
import Derived.Test.YtckdlhgeelhnmaaGreatOpSame
import Derived.Test.YtckdlhgeelhnmaaGreatPlR
namespace Go.Proofs.YtckdlhgeelhnmaaGreat
open Go.RowKit Go.Mh

set_option maxRecDepth 100000 in
set_option maxHeartbeats 1000000 in
theorem refLong_any (G : Nat → Prop) (u : Value) (L : List Pt) (w : World) (g : ROp G w u L) :
    Calls Tryz.prog 86 #[u] w fun e w' => e = .returned (.tuple #[.int .i64 (longs 0 0 L).1, .int .i64 (longs 0 0 L).2]) ∧ Below w.heap.size w w' := by
  obtain ⟨a', cap', rfl, hn'⟩ := RdS.len g
  have G' := Lib.hid g; clear g
  go_enter Tryz.func86, Tryz.ntmps86
  go_wp2
  go_loopw [2, 3, 8] (fun f t i wr => ∃ (k : Nat) (f' t' : Int), k ≤ L.length ∧ i = .int .i64 k ∧ f = .int .i64 f' ∧ t = .int .i64 t' ∧ Hid (longs 0 0 L = longs f' t' (L.drop k)) ∧ Below w.heap.size w wr) (fun _ _ i _ => L.length - (intOf i).toNat)
  case atStart => exact ⟨0, 0, 0, Nat.zero_le _, rfl, rfl, rfl, Lib.hid rfl, Below.refl _ _⟩
  case round =>
    obtain ⟨k, f, t, hk, rfl, rfl, rfl, hst, hb⟩ := hrel
    by_cases hlt : k < L.length
    · obtain ⟨p, hp⟩ : ∃ x, L[k]? = some x := ⟨_, List.getElem?_eq_getElem hlt⟩
      obtain ⟨b, o, sv, rfl, hits, c0, c1, c2, c3, c4, c5, c6⟩ := ROp.at G'.out hb hp
      obtain ⟨sa, sc, rfl, hsn⟩ := RdS.len hits
      have hbs : b < wr.heap.size := lt_of_cell c0
      have hs := Lib.hid (hst.out.trans (longs_step f t hp))
      clear hits hp hst
      obtain ⟨xk, xn, xits, xset, xclr, xto, xl⟩ := p
      by_cases h1 : xk = 1
      · subst h1
        go_wp2
        go_roundw
        case rel => exact ⟨k + 1, _, _, by omega, by go_num, rfl, rfl, Lib.hid (by rw [hs.out]; simp [w64_wrap]), bal hb _⟩
        case measure => simp [intOf]; omega
      by_cases h2 : xk = 2
      · subst h2
        go_wp2
        go_roundw
        case rel => exact ⟨k + 1, _, _, by omega, by go_num, rfl, rfl, Lib.hid (by rw [hs.out]; simp [w64_wrap]), bal hb _⟩
        case measure => simp [intOf]; omega
      by_cases h3 : xk = 3
      · subst h3
        go_wp2
        go_roundw
        case rel => exact ⟨k + 1, _, _, by omega, by go_num, rfl, rfl, Lib.hid (by rw [hs.out]; simp [w64_wrap]), bal hb _⟩
        case measure => simp [intOf]; omega
      have hs2 := Lib.hid (hs.out.trans (by simp only [if_neg h1, if_neg h2, if_neg h3] : _ = longs f t (L.drop (k + 1))))
      have e1 : (xk == 1) = false := by simpa using h1
      have e2 : (xk == 2) = false := by simpa using h2
      have e3 : (xk == 3) = false := by simpa using h3
      clear h1 h2 h3 hs
      go_wp2
      go_roundw
      case rel => exact ⟨k + 1, _, _, by omega, by go_num, rfl, rfl, hs2, bal hb _⟩
      case measure => simp [intOf]; omega
    · obtain rfl : k = L.length := by omega
      have hfin : Hid (longs 0 0 L = (f, t)) := Lib.hid (by rw [hst.out, List.drop_length]; rfl)
      go_wp2
      go_ret2
      exact ⟨by rw [hfin.out]; rfl, hb⟩

set_option maxRecDepth 100000 in
set_option maxHeartbeats 1000000 in
theorem changed_any (x : It) (p : Pt) (sv : Value) (w : World) (hx : x.Mk) (hp : p.kd.Ok) :
    Calls Tryz.prog 88 #[iv x, pv p sv] w fun e w' => e = .returned (iv (markI x p.kd)) ∧ Below w.heap.size w w' := by
  obtain ⟨c, m, l⟩ := x
  obtain ⟨k, n, its, set, clr, to, pl⟩ := p
  have hm : m - band m clr = bnot m clr := sub_band_of hx.1 hx.2 hp.c0 hp.c3
  have hw : IntKind.i64.wrap (m - band m clr) = bnot m clr := by
    rw [hm]
    obtain ⟨y, rfl⟩ := small4 hx.1 hx.2
    obtain ⟨z, hz⟩ := small4 hp.c0 hp.c3
    have hz' : clr = (z.val : Int) := hz
    rw [hz', bnot4]
    have := (not4 y z).isLt
    simp [IntKind.wrap, IntKind.bits, IntKind.signed]; omega
  clear hm hx hp
  cases to with
  | false =>
    go_enter Tryz.func88, Tryz.ntmps88
    go_wp2
    exact bodyPost_ret (v := iv ⟨c, bor (bnot m clr) set, l⟩) (by simp [results, Tryz.results88, go_sem]) rfl ⟨rfl, bal (bal (bal (brf _) _) _) _⟩
  | true =>
    by_cases hc : (c.toNat : Int) = 10
    · have hcb : ((c.toNat : Int) != 10) = false := by simpa using hc
      have hc' := Lib.hid hc; clear hc
      go_enter Tryz.func88, Tryz.ntmps88
      go_wp2
      exact bodyPost_ret (v := iv ⟨c, bor (bnot m clr) set, l⟩) (by simp [results, Tryz.results88, go_sem]) rfl ⟨congrArg (fun x => Ending.returned (iv x)) (by simp [markI, Pt.kd, hc'.out]), bal (bal (bal (brf _) _) _) _⟩
    · have hcb : ((c.toNat : Int) != 10) = true := by simpa using hc
      have hc' := Lib.hid hc; clear hc
      go_enter Tryz.func88, Tryz.ntmps88
      go_wp2
      exact bodyPost_ret (v := iv ⟨c, bor (bnot m clr) set, pl⟩) (by simp [results, Tryz.results88, go_sem]) rfl ⟨congrArg (fun x => Ending.returned (iv x)) (by simp [markI, Pt.kd, hc'.out]), bal (bal (bal (brf _) _) _) _⟩
end Go.Proofs.YtckdlhgeelhnmaaGreat
/- The references on operations: operations held against another. -/
namespace Go.Proofs.YtckdlhgeelhnmaaGreat
open Go.RowKit Go.Mh

theorem ref_part (p q : Pt) : (p.k == q.k && p.n == q.n && decide (p.its = q.its) && p.set == q.set && p.clr == q.clr && p.to == q.to && p.l == q.l) = decide (p = q) := by
  obtain ⟨k, n, its, set, clr, to, l⟩ := p
  obtain ⟨k', n', its', set', clr', to', l'⟩ := q
  rw [Bool.eq_iff_iff]
  simp [and_assoc]

set_option maxRecDepth 100000 in
set_option maxHeartbeats 1000000 in
theorem refSame1_any (F G : Nat → Prop) (p q : Pt) (sv tv : Value) (w : World) (h : RItems F w sv p.its) (g : RItems G w tv q.its) :
    Calls Tryz.prog 93 #[pv p sv, pv q tv] w fun e w' => e = .returned (.bool (decide (p = q))) ∧ Below w.heap.size w w' := by
  have H := Lib.hid h; clear h
  have G' := Lib.hid g; clear g
  have hs := Lib.hid (ref_part p q)
  have heq := Lib.hid (fun w' (hb : Below w.heap.size w w') => eqItems_any F G sv tv p.its q.its w' (H.out.to (Kp.below hb)) (G'.out.to (Kp.below hb)))
  obtain ⟨k, n, its, set, clr, to, l⟩ := p
  obtain ⟨k', n', its', set', clr', to', l'⟩ := q
  cases h1 : (k == k' && n == n') with
  | false =>
    have hs' : Hid (decide ((⟨k, n, its, set, clr, to, l⟩ : Pt) = ⟨k', n', its', set', clr', to', l'⟩) = false) := Lib.hid (by rw [← hs.out]; simp only [h1, Bool.false_and])
    clear hs
    rw [hs'.out]
    clear hs'
    cases h2 : (k == k') with
    | false =>
      clear h1
      go_enter Tryz.func93, Tryz.ntmps93
      go_wp2
      go_ret
      exact ⟨by simp, bal (bal (brf _) _) _⟩
    | true =>
      rw [h2, Bool.true_and] at h1
      go_enter Tryz.func93, Tryz.ntmps93
      go_wp2
      go_ret
      exact ⟨by simp, bal (bal (brf _) _) _⟩
  | true =>
    obtain ⟨h2, h3⟩ := Bool.and_eq_true_iff.1 h1
    have hs' := hs.out
    simp only [h1, Bool.true_and] at hs'
    have hs2 := Lib.hid hs'
    clear hs hs' h1
    go_enter Tryz.func93, Tryz.ntmps93
    cases hi : decide (its = its') with
    | false =>
      go_wp2_with (go_at_call 92; refine (heq.out _ (bal (bal (brf _) _) _)).mono ?_; rintro e w2 ⟨rfl, hb2⟩; simp only [hi])
      go_ret
      exact ⟨by first | rfl | (rw [← hs2.out, hi]; simp), (bal (bal (brf _) _) _).trans (hb2.mono (by simp; omega))⟩
    | true =>
      go_wp2_with fail
      refine (heq.out _ (bal (bal (brf _) _) _)).mono ?_
      rintro e w2 ⟨rfl, hb2⟩
      have hB1 : Below w.heap.size w w2 := (bal (bal (brf _) _) _).trans (hb2.mono (by simp; omega))
      obtain ⟨a0, a1, a2, a3, a4, a5, a6⟩ : P7 w2 w.heap.size (.int .i64 k) (.int .i64 n) sv (.int .i64 set) (.int .i64 clr) (.bool to) (str l) := by
        refine ⟨?_, ?_, ?_, ?_, ?_, ?_, ?_⟩ <;> (rw [hb2.cell (by first | (simp; done) | (simp; omega))]; simp)
      obtain ⟨b0, b1, b2, b3, b4, b5, b6⟩ : P7 w2 (w.heap.size + 1) (.int .i64 k') (.int .i64 n') tv (.int .i64 set') (.int .i64 clr') (.bool to') (str l') := by
        refine ⟨?_, ?_, ?_, ?_, ?_, ?_, ?_⟩ <;> (rw [hb2.cell (by first | (simp; done) | (simp; omega))]; simp)
      clear hb2
      simp only [hi]
      go_wp2
      all_goals
        go_ret
        exact ⟨by rw [← hs2.out, hi]; simp_all, hB1⟩

set_option maxRecDepth 100000 in
set_option maxHeartbeats 1000000 in
theorem refEqOp_any (F G : Nat → Prop) (v u : Value) (L M : List Pt) (w : World) (h : ROp F w v L) (g : ROp G w u M) :
    Calls Tryz.prog 89 #[v, u, .func (.func 93) #[] #[]] w fun e w' => e = .returned (.bool (decide (L = M))) ∧ Below w.heap.size w w' := by
  obtain ⟨a, cap, rfl, hn⟩ := RdS.len h
  obtain ⟨a', cap', rfl, hn'⟩ := RdS.len g
  have H := Lib.hid h; clear h
  have G' := Lib.hid g; clear g
  by_cases hlen : L.length = M.length
  · have hb0 : ((L.length : Int) != (M.length : Int)) = false := by simp [hlen]
    have hl' := Lib.hid hlen
    have hle : L.length ≤ M.length := by omega
    clear hlen
    go_enter Tryz.func89, Tryz.ntmps89
    go_wp2
    go_loopw [17] (fun i wr => ∃ k : Nat, k ≤ L.length ∧ i = .int .i64 k ∧ Hid (L.take k = M.take k) ∧ Below w.heap.size w wr) (fun i _ => L.length - (intOf i).toNat)
    case atStart => exact ⟨0, Nat.zero_le _, rfl, Lib.hid rfl, Below.refl _ _⟩
    case round =>
      obtain ⟨k, hk, rfl, htk, hb⟩ := hrel
      by_cases hlt : k < L.length
      · obtain ⟨p, hp⟩ : ∃ x, L[k]? = some x := ⟨_, List.getElem?_eq_getElem hlt⟩
        obtain ⟨q, hq⟩ : ∃ x, M[k]? = some x := ⟨_, List.getElem?_eq_getElem (by omega)⟩
        obtain ⟨b, o, sv, rfl, hits, c0, c1, c2, c3, c4, c5, c6⟩ := ROp.at H.out hb hp
        obtain ⟨b', o', tv, rfl, hits', d0, d1, d2, d3, d4, d5, d6⟩ := ROp.at G'.out hb hq
        have hp' := Lib.hid hp; clear hp
        have hq' := Lib.hid hq; clear hq
        obtain ⟨sa, sc, rfl, hsn⟩ := RdS.len hits
        obtain ⟨ta, tc, rfl, htn⟩ := RdS.len hits'
        have hI := Lib.hid hits; clear hits
        have hI' := Lib.hid hits'; clear hits'
        have hbs : b < wr.heap.size := lt_of_cell c0
        have hbs' : b' < wr.heap.size := lt_of_cell d0
        have hkm : k < M.length := by omega
        have hts := Lib.hid (take_step htk.out hp'.out hq'.out)
        obtain ⟨xk, xn, xits, xset, xclr, xto, xl⟩ := p
        obtain ⟨yk, yn, yits, yset, yclr, yto, yl⟩ := q
        go_wp2_with fail
        refine (refSame1_any F G ⟨xk, xn, xits, xset, xclr, xto, xl⟩ ⟨yk, yn, yits, yset, yclr, yto, yl⟩ _ _ _ (hI.out.to (Kp.below (bal (bal (brf _) _) _))) (hI'.out.to (Kp.below (bal (bal (brf _) _) _)))).mono ?_
        rintro e w1 ⟨rfl, hb1⟩
        have hB1 : Below w.heap.size w w1 := (bal (bal hb _) _).trans (hb1.mono (by have := hb.size; simp; omega))
        clear hb1
        by_cases he : (⟨xk, xn, xits, xset, xclr, xto, xl⟩ : Pt) = ⟨yk, yn, yits, yset, yclr, yto, yl⟩
        · have hts' := Lib.hid (hts.out he)
          rw [decide_eq_true he]
          clear he
          go_wp2
          go_roundw
          case rel => exact ⟨k + 1, by omega, by go_num, hts', hB1⟩
          case measure => simp [intOf]; omega
        · have hne : Hid (L ≠ M) := Lib.hid fun hLM => he (by have := hp'.out; rw [hLM, hq'.out] at this; exact (Option.some.inj this).symm)
          rw [decide_eq_false he]
          clear he
          go_wp2
          go_ret
          exact ⟨by rw [decide_eq_false hne.out]; rfl, hB1⟩
      · obtain rfl : k = L.length := by omega
        have hLM : Hid (L = M) := Lib.hid (by have := htk.out; rw [List.take_length, hl'.out, List.take_length] at this; exact this)
        go_wp2
        go_ret
        exact ⟨by rw [decide_eq_true hLM.out]; rfl, hb⟩
  · have hb0 : ((L.length : Int) != (M.length : Int)) = true := by simp; omega
    have hne : Hid (L ≠ M) := Lib.hid fun e => hlen (by rw [e])
    clear hlen
    go_enter Tryz.func89, Tryz.ntmps89
    go_wp2
    go_ret
    exact ⟨by rw [decide_eq_false hne.out]; rfl, brf _⟩

set_option maxHeartbeats 400000 in
theorem refSame_any (F G : Nat → Prop) (v u : Value) (L M : List Pt) (w : World) (h : ROp F w v L) (g : ROp G w u M) :
    Calls Tryz.prog 54 #[v, u] w fun e w' => e = .returned (.bool (decide (L = M))) ∧ Below w.heap.size w w' := by
  have heq := Lib.hid (refEqOp_any F G v u L M w h g)
  clear h g
  go_enter Tryz.func54, Tryz.ntmps54
  go_wp2_with (go_at_call 89; refine heq.out.mono ?_; rintro e w1 ⟨rfl, hb1⟩)
  go_ret
  exact ⟨rfl, hb1⟩
end Go.Proofs.YtckdlhgeelhnmaaGreat
