/- Package op: Same: two operations held against another. -/
import Derived.Test.YtckdlhgeelhnmaaGreatOpA
import Derived.Test.YtckdlhgeelhnmaaGreatEqItems
namespace Go.Proofs.YtckdlhgeelhnmaaGreat
open Go.RowKit Go.Mh

theorem same_part (p q : Pt) : (alikeP p q && p.n == q.n && decide (p.its = q.its)) = decide (p = q) := by
  obtain ⟨k, n, its, set, clr, to, l⟩ := p
  obtain ⟨k', n', its', set', clr', to', l'⟩ := q
  rw [Bool.eq_iff_iff]
  simp [alikeP]
  constructor
  · rintro ⟨⟨⟨⟨⟨⟨rfl, rfl⟩, rfl⟩, rfl⟩, rfl⟩, rfl⟩, rfl⟩; simp
  · rintro ⟨rfl, rfl, rfl, rfl, rfl, rfl, rfl⟩; simp

set_option maxRecDepth 100000 in
set_option maxHeartbeats 1000000 in
theorem same1_any (F G : Nat → Prop) (p q : Pt) (sv tv : Value) (w : World) (h : RItems F w sv p.its) (g : RItems G w tv q.its) :
    Calls Tryz.prog 90 #[pv p sv, pv q tv] w fun e w' => e = .returned (.bool (decide (p = q))) ∧ Below w.heap.size w w' := by
  have H := Lib.hid h; clear h
  have G' := Lib.hid g; clear g
  have hs := Lib.hid (same_part p q)
  have heq := Lib.hid (fun w' (hb : Below w.heap.size w w') => eqItems_any F G sv tv p.its q.its w' (H.out.to (Kp.below hb)) (G'.out.to (Kp.below hb)))
  obtain ⟨k, n, its, set, clr, to, l⟩ := p
  obtain ⟨k', n', its', set', clr', to', l'⟩ := q
  go_enter Tryz.func90, Tryz.ntmps90
  go_wp2_with fail
  refine (alike_any ⟨k, n, its, set, clr, to, l⟩ ⟨k', n', its', set', clr', to', l'⟩ sv tv _).mono ?_
  rintro e w1 ⟨rfl, hb⟩
  have hB1 : Below w.heap.size w w1 := (bal (bal (brf _) _) _).trans (hb.mono (by simp; omega))
  obtain ⟨a0, a1, a2, a3, a4, a5, a6⟩ : P7 w1 w.heap.size (.int .i64 k) (.int .i64 n) sv (.int .i64 set) (.int .i64 clr) (.bool to) (str l) := by
    refine ⟨?_, ?_, ?_, ?_, ?_, ?_, ?_⟩ <;> (rw [hb.cell (by first | (simp; done) | (simp; omega))]; simp)
  obtain ⟨b0, b1, b2, b3, b4, b5, b6⟩ : P7 w1 (w.heap.size + 1) (.int .i64 k') (.int .i64 n') tv (.int .i64 set') (.int .i64 clr') (.bool to') (str l') := by
    refine ⟨?_, ?_, ?_, ?_, ?_, ?_, ?_⟩ <;> (rw [hb.cell (by first | (simp; done) | (simp; omega))]; simp)
  clear hb
  cases hal : alikeP ⟨k, n, its, set, clr, to, l⟩ ⟨k', n', its', set', clr', to', l'⟩ with
  | false =>
    have hal' := Lib.hid hal; clear hal
    go_wp2
    go_ret
    exact ⟨by rw [← hs.out, hal'.out]; rfl, hB1⟩
  | true =>
    have hal' := Lib.hid hal; clear hal
    by_cases hn : n = n'
    · have hn' := Lib.hid hn
      have hnb : (n == n') = true := by simpa using hn
      clear hn
      go_wp2_with (go_at_call 92; refine (heq.out _ hB1).mono ?_; rintro e w2 ⟨rfl, hb2⟩)
      go_ret
      exact ⟨by rw [← hs.out, hal'.out]; simp [hn'.out], btr hB1 hb2⟩
    · have hn' := Lib.hid hn
      have hnb : (n == n') = false := by simpa using hn
      clear hn
      go_wp2
      go_ret
      exact ⟨by rw [← hs.out]; simp [hn'.out], hB1⟩

theorem take_step {L M : List Pt} {k : Nat} {p q : Pt} (h : L.take k = M.take k) (hp : L[k]? = some p) (hq : M[k]? = some q) (e : p = q) : L.take (k + 1) = M.take (k + 1) := by
  rw [List.take_add_one, List.take_add_one, h, hp, hq, e]

set_option maxRecDepth 100000 in
set_option maxHeartbeats 1000000 in
theorem eqOp_any (F G : Nat → Prop) (v u : Value) (L M : List Pt) (w : World) (h : ROp F w v L) (g : ROp G w u M) :
    Calls Tryz.prog 89 #[v, u, .func (.func 90) #[] #[]] w fun e w' => e = .returned (.bool (decide (L = M))) ∧ Below w.heap.size w w' := by
  obtain ⟨a, cap, rfl, hn⟩ := RdS.len h
  obtain ⟨a', cap', rfl, hn'⟩ := RdS.len g
  have H := Lib.hid h; clear h
  have G' := Lib.hid g; clear g
  by_cases hlen : L.length = M.length
  · have hb0 : ((L.length : Int) != (M.length : Int)) = false := by simp [hlen]
    have hl' := Lib.hid hlen
    have hle : L.length ≤ M.length := by omega
    clear hlen
    go_enter Tryz.func89, Tryz.ntmps89
    go_wp2
    go_loopw [17] (fun i wr => ∃ k : Nat, k ≤ L.length ∧ i = .int .i64 k ∧ Hid (L.take k = M.take k) ∧ Below w.heap.size w wr) (fun i _ => L.length - (intOf i).toNat)
    case atStart => exact ⟨0, Nat.zero_le _, rfl, Lib.hid rfl, Below.refl _ _⟩
    case round =>
      obtain ⟨k, hk, rfl, htk, hb⟩ := hrel
      by_cases hlt : k < L.length
      · obtain ⟨p, hp⟩ : ∃ x, L[k]? = some x := ⟨_, List.getElem?_eq_getElem hlt⟩
        obtain ⟨q, hq⟩ : ∃ x, M[k]? = some x := ⟨_, List.getElem?_eq_getElem (by omega)⟩
        obtain ⟨b, o, sv, rfl, hits, c0, c1, c2, c3, c4, c5, c6⟩ := ROp.at H.out hb hp
        obtain ⟨b', o', tv, rfl, hits', d0, d1, d2, d3, d4, d5, d6⟩ := ROp.at G'.out hb hq
        have hp' := Lib.hid hp; clear hp
        have hq' := Lib.hid hq; clear hq
        obtain ⟨sa, sc, rfl, hsn⟩ := RdS.len hits
        obtain ⟨ta, tc, rfl, htn⟩ := RdS.len hits'
        have hI := Lib.hid hits; clear hits
        have hI' := Lib.hid hits'; clear hits'
        have hbs : b < wr.heap.size := lt_of_cell c0
        have hbs' : b' < wr.heap.size := lt_of_cell d0
        have hkm : k < M.length := by omega
        have hts := Lib.hid (take_step htk.out hp'.out hq'.out)
        obtain ⟨xk, xn, xits, xset, xclr, xto, xl⟩ := p
        obtain ⟨yk, yn, yits, yset, yclr, yto, yl⟩ := q
        go_wp2_with fail
        refine (same1_any F G ⟨xk, xn, xits, xset, xclr, xto, xl⟩ ⟨yk, yn, yits, yset, yclr, yto, yl⟩ _ _ _ (hI.out.to (Kp.below (bal (bal (brf _) _) _))) (hI'.out.to (Kp.below (bal (bal (brf _) _) _)))).mono ?_
        rintro e w1 ⟨rfl, hb1⟩
        have hB1 : Below w.heap.size w w1 := (bal (bal hb _) _).trans (hb1.mono (by have := hb.size; simp; omega))
        clear hb1
        by_cases he : (⟨xk, xn, xits, xset, xclr, xto, xl⟩ : Pt) = ⟨yk, yn, yits, yset, yclr, yto, yl⟩
        · have hts' := Lib.hid (hts.out he)
          rw [decide_eq_true he]
          clear he
          go_wp2
          go_roundw
          case rel => exact ⟨k + 1, by omega, by go_num, hts', hB1⟩
          case measure => simp [intOf]; omega
        · have hne : Hid (L ≠ M) := Lib.hid fun hLM => he (by have := hp'.out; rw [hLM, hq'.out] at this; exact (Option.some.inj this).symm)
          rw [decide_eq_false he]
          clear he
          go_wp2
          go_ret
          exact ⟨by rw [decide_eq_false hne.out]; rfl, hB1⟩
      · obtain rfl : k = L.length := by omega
        have hLM : Hid (L = M) := Lib.hid (by have := htk.out; rw [List.take_length, hl'.out, List.take_length] at this; exact this)
        go_wp2
        go_ret
        exact ⟨by rw [decide_eq_true hLM.out]; rfl, hb⟩
  · have hb0 : ((L.length : Int) != (M.length : Int)) = true := by simp; omega
    have hne : Hid (L ≠ M) := Lib.hid fun e => hlen (by rw [e])
    clear hlen
    go_enter Tryz.func89, Tryz.ntmps89
    go_wp2
    go_ret
    exact ⟨by rw [decide_eq_false hne.out]; rfl, brf _⟩

set_option maxHeartbeats 400000 in
theorem opSame_any (F G : Nat → Prop) (v u : Value) (L M : List Pt) (w : World) (h : ROp F w v L) (g : ROp G w u M) :
    Calls Tryz.prog 53 #[v, u] w fun e w' => e = .returned (.bool (decide (L = M))) ∧ Below w.heap.size w w' := by
  have heq := Lib.hid (eqOp_any F G v u L M w h g)
  clear h g
  go_enter Tryz.func53, Tryz.ntmps53
  go_wp2_with (go_at_call 89; refine heq.out.mono ?_; rintro e w1 ⟨rfl, hb1⟩)
  go_ret
  exact ⟨rfl, hb1⟩
end Go.Proofs.YtckdlhgeelhnmaaGreat
