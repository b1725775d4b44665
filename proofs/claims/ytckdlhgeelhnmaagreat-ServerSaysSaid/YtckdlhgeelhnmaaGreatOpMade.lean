/- Package op: Made: parts made to an operation that is tidy. -/
import Derived.Test.YtckdlhgeelhnmaaGreatOpAdd
import Derived.Test.YtckdlhgeelhnmaaGreatPlA
import Derived.Test.YtckdlhgeelhnmaaGreatMemA
import Derived.Deep.RegionLaw
import Derived.IntWalk
namespace Go.Proofs.YtckdlhgeelhnmaaGreat
open Go.RowKit Go.Mh

theorem made_boxes {wr w2 : World} {g g' : Nat} {o o' : Obj} {r : Option Nat} (h : wr.heap[g]? = some o) (h' : wr.heap[g']? = some o') (hg : wr.drew.grownBy w2 r) (h1 : some g ≠ r) (h2 : some g' ≠ r) : Hid (w2.heap[g]? = some o) ∧ Hid (w2.heap[g']? = some o') :=
  ⟨Lib.hid ((hg.block g (lt_of_heap h) h1).trans h), Lib.hid ((hg.block g' (lt_of_heap h') h2).trans h')⟩
theorem made_size {B : Nat} {wr w5 : World} (h : B ≤ wr.heap.size) (hb : Below B wr.drew w5) : B ≤ w5.heap.size := Nat.le_trans h hb.size
theorem made_cut {v : Value} {wr w5 : World} {g : Nat} {o : Obj} (hk : Kpt v wr.drew w5) (h1 : g < wr.heap.size) (h2 : some g ≠ v.ownBlock) (h : wr.heap[g]? = some o) : Hid (w5.heap[g]? = some o) := Lib.hid ((hk g h1 h2).trans h)
theorem own_far {B e T : Nat} {w : World} {v : Value} {O : List Pt} (h : OwnS B e 7 (RPtI T) w v O) (g : Nat) (hg : w.heap.size ≤ g) : some g ≠ v.ownBlock := by
  obtain ⟨css, hrow, _⟩ := h
  intro e
  have := (hrow.lt g e.symm).2
  omega
theorem made_frozen {w : World} {g : Nat} {cs : Array Value} {T : TypeId} (h : Hid (w.heap[g]? = some (.cells cs T (0, 0)))) : w.frozen? ⟨g, 2, none⟩ = false := Lib.frozen_of_heap h.out _

theorem add_put (B : Nat) (v : Value) (O : List Pt) (its : List It) (s2 : Value) (w : World) (ho : OwnS B 112 7 (RPtI 50) w v O) (F : Nat → Prop) (hits : RItems F w s2 its) (hB : B ≤ w.heap.size)
    (hnum : its.length ≤ 100000 ∧ O.length ≤ 2000) (hq : ∀ q, O.getLast? = some q → alikeP q (putP its) = true → (putP its).k ≠ 2 ∧ q.its = [] ∧ 0 ≤ q.n ∧ q.n ≤ 1000000) :
    Calls Tryz.prog 142 #[v, .agg #[.int .i64 2, .int .i64 0, s2, .int .i64 0, .int .i64 0, .bool false, .string ⟨#[]⟩]] w fun e w' => ∃ u, e = .returned u ∧ OwnS B 112 7 (RPtI 50) w' u (addP O (putP its)) ∧ Below B w w' ∧ Kpt v w w' :=
  add_any B v O (putP its) s2 w ho F hits hB hnum.1 (by omega) (Int.le_refl _) (by simp [putP]) (fun h => absurd rfl h) hq
theorem add_cut (B : Nat) (v : Value) (O : List Pt) (its : List It) (n : Int) (w : World) (ho : OwnS B 112 7 (RPtI 50) w v (addP O (putP its))) (hB : B ≤ w.heap.size)
    (hn : 0 ≤ n ∧ n ≤ 100000 ∧ O.length ≤ 2000) (hq : ∀ q, (addP O (putP its)).getLast? = some q → alikeP q (cutP n) = true → (cutP n).k ≠ 2 ∧ q.its = [] ∧ 0 ≤ q.n ∧ q.n ≤ 1000000) :
    Calls Tryz.prog 142 #[v, .agg #[.int .i64 3, .int .i64 n, .slice none 0 0, .int .i64 0, .int .i64 0, .bool false, .string ⟨#[]⟩]] w fun e w' => ∃ u, e = .returned u ∧ OwnS B 112 7 (RPtI 50) w' u (addP (addP O (putP its)) (cutP n)) ∧ Below B w w' ∧ Kpt v w w' :=
  add_any B v (addP O (putP its)) (cutP n) (.slice none 0 0) w ho (fun _ => True) RdS.nil hB (by simp [cutP]) (by have := addP_len O (putP its); omega) hn.1 (by simp only [cutP]; omega) (fun _ => rfl) hq

set_option maxRecDepth 100000 in
set_option maxHeartbeats 4000000 in
theorem opMade_any (G : Nat → Prop) (u : Value) (L : List Pt) (w : World) (g : ROp G w u L) (hL : Lok L) :
    Calls Tryz.prog 129 #[u] w fun e w' => ∃ r, e = .returned r ∧ OwnS w.heap.size 112 7 (RPtI 50) w' r (madeP L) ∧ Below w.heap.size w w' := by
  obtain ⟨a, cap, rfl, hn⟩ := RdS.len g
  have G' := Lib.hid g; clear g
  have hL' := Lib.hid hL
  have hlen := hL.len
  clear hL
  go_enter Tryz.func129, Tryz.ntmps129
  go_wp2
  go_loopw [3, 4] (fun v i wr => ∃ (k : Nat) (O : List Pt), i = .int .i64 k ∧ MadeI L O k ∧ OwnS w.heap.size 112 7 (RPtI 50) wr v O ∧ Below w.heap.size w wr) (fun _ i _ => L.length - (intOf i).toNat)
  case atStart => exact ⟨0, [], rfl, made_start L, OwnS.nil, Below.refl _ _⟩
  case round =>
    obtain ⟨k, O, rfl, hm, ho, hb⟩ := hrel
    have ho' := Lib.hid ho; clear ho
    have hk := hm.le
    have hws : w.heap.size ≤ wr.heap.size := hb.size
    by_cases hlt : k < L.length
    · obtain ⟨p, hp⟩ : ∃ x, L[k]? = some x := ⟨_, List.getElem?_eq_getElem hlt⟩
      obtain ⟨b, o, sv, rfl, hits, c0, c1, c2, c3, c4, c5, c6⟩ := ROp.at G'.out hb hp
      obtain ⟨sa, sc, rfl, hsn⟩ := RdS.len hits
      have hbs : b < wr.heap.size := lt_of_cell c0
      have hI := Lib.hid hits; clear hits
      by_cases hpk : p.k = 1
      · have hnext := Lib.hid (made_keep hL'.out hm hp hpk)
        have hpi := Lib.hid ((hL'.out.fm p (List.mem_of_getElem? hp)).its0 (by omega))
        have hq := Lib.hid (made_keep_q hL'.out hm hpk)
        have hn0 := (hL'.out.fm p (List.mem_of_getElem? hp)).n0
        have hn1 := hL'.out.n p (List.mem_of_getElem? hp)
        have hi1 := hL'.out.its p (List.mem_of_getElem? hp)
        have hOl := hm.len
        clear hp hm
        have hpk' : (p.k == 1) = true := by simpa using hpk
        clear hpk
        go_wp2_with fail
        refine (add_any w.heap.size _ O p _ _ ho'.out _ hI.out hws (by omega) (by omega) hn0 (by omega) (fun _ => hpi.out) hq.out).mono ?_
        rintro e w1 ⟨v1, rfl, ho1, hb1, _⟩
        have ho1' := Lib.hid ho1
        clear ho1
        go_wp2
        go_roundw
        case rel => exact ⟨k + 1, _, by go_num, hnext.out, ho1'.out, hb.trans hb1⟩
        case measure => simp [intOf]; omega
      · have hpk' : (p.k == 1) = false := by simpa using hpk
        have hop := Lib.hid (made_open hm hp hpk)
        clear hm
        go_wp2
        obtain ⟨wo, rfl⟩ : ∃ wo : World, wo = wr := ⟨_, rfl⟩
        go_loopw [4] (fun j ws => ∃ (j' : Nat) (its : List It) (n : Int) (s2 : Value), j = .int .i64 j' ∧ MadeJ L O k j' its n ∧ ws.heap[wo.heap.size]? = some (.cells #[.int .i64 2, .int .i64 0, s2, .int .i64 0, .int .i64 0, .bool false, .string ⟨#[]⟩] 112 (0, 0)) ∧ ws.heap[wo.heap.size + 1]? = some (.cells #[.int .i64 3, .int .i64 n, .slice none 0 0, .int .i64 0, .int .i64 0, .bool false, .string ⟨#[]⟩] 112 (0, 0)) ∧ OwnS (wo.heap.size + 2) 50 3 RIt ws s2 its ∧ Below wo.heap.size wo ws) (fun j _ => L.length - (intOf j).toNat)
        case atStart => exact ⟨k, [], 0, _, rfl, hop.out, ((bal (brf _) _).block _ (by simp)).trans (heap_new _ _), by have := heap_new (wo.alloc (.cells #[.int .i64 2, .int .i64 0, .slice none 0 0, .int .i64 0, .int .i64 0, .bool false, .string ⟨#[]⟩] 112)) (.cells #[.int .i64 3, .int .i64 0, .slice none 0 0, .int .i64 0, .int .i64 0, .bool false, .string ⟨#[]⟩] 112); simpa using this, OwnS.nil, (bal (brf _) _).alloc (by simp) _⟩
        case round =>
          obtain ⟨j, its, n, s2, rfl, hj, hbox, hcut, hoi, hbi⟩ := hrel
          have hj1 := hj.le
          have hj2 := hj.ij
          have hoi' := Lib.hid hoi; clear hoi
          have hbox' := Lib.hid hbox; clear hbox
          have hcut' := Lib.hid hcut; clear hcut
          obtain ⟨a0, a1, a2, a3, a4, a5, a6⟩ := P7.of hbox'.out
          obtain ⟨d0, d1, d2, d3, d4, d5, d6⟩ := P7.of hcut'.out
          have hws1 : wo.heap.size + 1 < wr.heap.size := lt_of_heap hcut'.out
          have hbw : Below w.heap.size w wr := btr hb hbi
          by_cases hgo : ∃ x, L[j]? = some x ∧ x.k ≠ 1
          · obtain ⟨x, hx, hxk⟩ := hgo
            have hjl := (List.getElem?_eq_some_iff.1 hx).1
            obtain ⟨b3, o3, sv, e3, xits, x0, x1, x2, x3, x4, x5, x6⟩ := ROp.at G'.out hbw hx
            cases e3
            obtain ⟨xa, xc, rfl, hxn⟩ := RdS.len xits
            have hxI := Lib.hid xits; clear xits
            have hnext := Lib.hid (made_step hL'.out hj hx hxk)
            have hxk' : (x.k == 1) = false := by simpa using hxk
            have hxk2 : (x.k != 1) = true := by simpa using hxk
            have hj0 := Lib.hid (⟨by have h1 := hj.il; have h2 := hL'.out.its x (List.mem_of_getElem? hx); omega, hj.n0, by have h1 := hj.n1; omega, hL'.out.n x (List.mem_of_getElem? hx), (hL'.out.fm x (List.mem_of_getElem? hx)).n0⟩ : its.length + x.its.length ≤ 200000 ∧ 0 ≤ n ∧ n ≤ 100000 ∧ x.n ≤ 100 ∧ 0 ≤ x.n)
            have hx' := Lib.hid hx
            clear hxk hj hx
            go_wp2
            have hs2 : some wo.heap.size ≠ s2.ownBlock := hoi'.out.ne hbox'.out (by decide)
            have hs3 : some (wo.heap.size + 1) ≠ s2.ownBlock := hoi'.out.ne hcut'.out (by decide)
            have hil := hj0.out.1
            have hoi2 : Hid (OwnS (wo.heap.size + 2) 50 3 RIt wr.drew s2 its) := Lib.hid (hoi'.out.below (Below.refl _ _).drew fun _ _ _ r => r)
            have hxI2 : Hid (RItems G wr.drew (.slice xa x.its.length xc) x.its) := Lib.hid (hxI.out.to (Kp.below (Below.refl _ _).drew))
            go_region_law (refine step_app rfl (.tmp 40) (.tmp 45) 33 rfl (wo.heap.size + 2) 50 3 32 _ elItems RIt s2 its x.its (by simp [Act.eval]) hoi2.out _ (.slice xa x.its.length xc) (by simp [Act.eval]) hxI2.out RIt_one (by unfold maxLen; omega) (by omega) (by simp; omega) (fun _ _ _ _ _ r => r) ?_; intro v2 w2 ho2 hgrow hB2; obtain ⟨ya, yc, rfl, _⟩ := RdS.len ho2.rd; obtain ⟨hbox2, hcut2⟩ := made_boxes hbox'.out hcut'.out hgrow hs2 hs3; have f2 := made_frozen hbox2; obtain ⟨k0, k1, k2, k3, k4, k5, k6⟩ := P7.of hbox2.out)
            all_goals
              go_wp2_with fail
              refine name_world ?_
              intro w3 hW3
              rw [← List.length_append] at hW3
              have hbox3 := Lib.hid (by rw [← hW3]; exact heap_setCell_same _ _ 2 _ _ (.slice ya (its ++ x.its).length yc) hbox2.out : w3.heap[wo.heap.size]? = some (.cells #[.int .i64 2, .int .i64 0, .slice ya (its ++ x.its).length yc, .int .i64 0, .int .i64 0, .bool false, .string ⟨#[]⟩] 112 (0, 0)))
              have hcut3 := Lib.hid (by rw [← hW3]; exact (heap_setCell_other _ _ _ _ (by simp)).trans hcut2.out : w3.heap[wo.heap.size + 1]? = some (.cells #[.int .i64 3, .int .i64 n, .slice none 0 0, .int .i64 0, .int .i64 0, .bool false, .string ⟨#[]⟩] 112 (0, 0)))
              have ho3 : Hid (OwnS (wo.heap.size + 2) 50 3 RIt w3 (.slice ya (its ++ x.its).length yc) (its ++ x.its)) := Lib.hid (by rw [← hW3]; exact ho2.to (fun g hg _ => heap_setCell_other _ _ _ _ (fun e => ho2.ne hbox2.out (by decide) (by rw [hg, e]))) fun _ _ _ r => r)
              have hb3 : Below wo.heap.size wo w3 := by rw [← hW3]; exact ((hbi.drew).trans (hB2.mono (by omega))).setCell (Nat.le_refl _) _
              clear hW3 k0 k1 k2 k3 k4 k5 k6 a0 a1 a2 a3 a4 a5 a6 d0 d1 d2 d3 d4 d5 d6 x0 x1 x2 x3 x4 x5 x6 f2
              obtain ⟨k0, k1, k2, k3, k4, k5, k6⟩ := P7.of hcut3.out
              obtain ⟨b4, o4, sv4, e4, _, x0, x1, x2, x3, x4, x5, x6⟩ := ROp.at G'.out (btr hb hb3) hx'.out
              cases e4
              have f2 : w3.frozen? ⟨wo.heap.size + 1, 1, none⟩ = false := Lib.frozen_of_heap hcut3.out _
              have hsum : IntKind.i64.wrap (n + x.n) = n + x.n := IntWalk.i64_in _ (by have := hj0.out; omega)
              go_region
              go_wp2
              go_roundw
              case rel => exact ⟨j + 1, its ++ x.its, n + x.n, .slice ya (its ++ x.its).length yc, by go_num, hnext.out, (heap_setCell_other _ _ _ _ (by simp)).trans hbox3.out, heap_setCell_same _ _ _ _ _ _ hcut3.out, ho3.out.to (fun g hg _ => heap_setCell_other _ _ _ _ (fun e => ho3.out.ne hcut3.out (by decide) (by rw [hg, e]))) fun _ _ _ r => r, (hb3.drew).setCell (Nat.le_succ _) _⟩
              case measure => simp [intOf]; omega
          · have hex : ∀ p, L[j]? = some p → p.k = 1 := fun p hp => Decidable.byContradiction fun h => hgo ⟨p, hp, h⟩
            have hkj : k < j := by
              rcases Nat.lt_or_ge k j with h | h
              · exact h
              · obtain rfl : j = k := by omega
                exact absurd (hex p hp) hpk
            have hnext := Lib.hid (made_shut hj hkj hex)
            have hq1 := Lib.hid (made_put_q hj)
            have hq2 := Lib.hid (made_cut_q hj)
            have hnum := Lib.hid (⟨by have := hj.il; omega, hj.n0, by have := hj.n1; omega, by have := hj.len; omega⟩ : its.length ≤ 100000 ∧ 0 ≤ n ∧ n ≤ 100000 ∧ O.length ≤ 2000)
            have hex' := Lib.hid hex
            clear hex hgo hj
            by_cases hjl : j < L.length
            · obtain ⟨x, hx⟩ : ∃ x, L[j]? = some x := ⟨_, List.getElem?_eq_getElem hjl⟩
              obtain ⟨b3, o3, sv, e3, xits, x0, x1, x2, x3, x4, x5, x6⟩ := ROp.at G'.out hbw hx
              cases e3
              have hxk : x.k = 1 := hex'.out x hx
              rw [hxk] at x0
              clear hx xits hxk
              go_wp2
              have ho4 : Hid (OwnS w.heap.size 112 7 (RPtI 50) wr.drew _ O) := Lib.hid (ho'.out.below hbi.drew fun cs x _ r => r.below hbi.drew)
              have hits4 : Hid (RItems (wo.heap.size + 2 ≤ ·) wr.drew s2 its) := Lib.hid (RItems.to hoi'.out.rd (Kp.below (Below.refl _ _).drew))
              have hlt4 := own_far ho'.out (wo.heap.size + 1) (by omega)
              have hws4 : w.heap.size ≤ wr.heap.size := hbw.size
              have hj1' : IntKind.i64.wrap ((j : Int) - 1) = (j : Int) - 1 := IntWalk.i64_in _ (by omega)
              have C1 := Lib.hid (add_put w.heap.size _ O its s2 wr.drew ho4.out _ hits4.out hws4 ⟨hnum.out.1, hnum.out.2.2.2⟩ hq1.out)
              have C2 := Lib.hid (fun w5 v5 (ho5 : OwnS w.heap.size 112 7 (RPtI 50) w5 v5 (addP O (putP its))) hs5 => add_cut w.heap.size v5 O its n w5 ho5 hs5 hnum.out.2 hq2.out)
              go_region_law (first | (go_simp; go_at_call 142; (with_reducible refine C1.out.mono ?_); rintro e w5 ⟨v5, rfl, ho5, hb5, hk5⟩; have ho5' := Lib.hid ho5; have hs5 := made_size hws4 hb5; have hcut5 := made_cut hk5 hws1 hlt4 hcut'.out; obtain ⟨k0, k1, k2, k3, k4, k5, k6⟩ := P7.of hcut5.out) | (go_simp; go_at_call 142; (with_reducible refine (C2.out _ _ ho5'.out hs5).mono ?_); rintro e w6 ⟨v6, rfl, ho6, hb6, _⟩; have ho6' := Lib.hid ho6))
              all_goals
                go_wp2
                go_roundw
                case rel => exact ⟨_, _, by go_num, hnext.out, ho6'.out, ((hb.trans (hbi.mono hws)).drew.trans hb5).trans hb6⟩
                case measure => simp [intOf]; omega
            · obtain rfl : j = L.length := by omega
              go_wp2
              have ho4 : Hid (OwnS w.heap.size 112 7 (RPtI 50) wr.drew _ O) := Lib.hid (ho'.out.below hbi.drew fun cs x _ r => r.below hbi.drew)
              have hits4 : Hid (RItems (wo.heap.size + 2 ≤ ·) wr.drew s2 its) := Lib.hid (RItems.to hoi'.out.rd (Kp.below (Below.refl _ _).drew))
              have hlt4 := own_far ho'.out (wo.heap.size + 1) (by omega)
              have hws4 : w.heap.size ≤ wr.heap.size := hbw.size
              have hj1' : IntKind.i64.wrap ((L.length : Int) - 1) = (L.length : Int) - 1 := IntWalk.i64_in _ (by omega)
              have C1 := Lib.hid (add_put w.heap.size _ O its s2 wr.drew ho4.out _ hits4.out hws4 ⟨hnum.out.1, hnum.out.2.2.2⟩ hq1.out)
              have C2 := Lib.hid (fun w5 v5 (ho5 : OwnS w.heap.size 112 7 (RPtI 50) w5 v5 (addP O (putP its))) hs5 => add_cut w.heap.size v5 O its n w5 ho5 hs5 hnum.out.2 hq2.out)
              go_region_law (first | (go_simp; go_at_call 142; (with_reducible refine C1.out.mono ?_); rintro e w5 ⟨v5, rfl, ho5, hb5, hk5⟩; have ho5' := Lib.hid ho5; have hs5 := made_size hws4 hb5; have hcut5 := made_cut hk5 hws1 hlt4 hcut'.out; obtain ⟨k0, k1, k2, k3, k4, k5, k6⟩ := P7.of hcut5.out) | (go_simp; go_at_call 142; (with_reducible refine (C2.out _ _ ho5'.out hs5).mono ?_); rintro e w6 ⟨v6, rfl, ho6, hb6, _⟩; have ho6' := Lib.hid ho6))
              all_goals
                go_wp2
                go_roundw
                case rel => exact ⟨_, _, by go_num, hnext.out, ho6'.out, ((hb.trans (hbi.mono hws)).drew.trans hb5).trans hb6⟩
                case measure => simp [intOf]; omega
    · obtain rfl : k = L.length := by omega
      have hfin := Lib.hid (made_end hm)
      go_wp2
      go_ret
      exact ⟨_, rfl, by rw [← hfin.out]; exact ho'.out, hb⟩
end Go.Proofs.YtckdlhgeelhnmaaGreat
