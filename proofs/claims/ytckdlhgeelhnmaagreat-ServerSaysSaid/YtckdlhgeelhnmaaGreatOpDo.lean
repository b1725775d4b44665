/- Package op: Do: an operation done on a document that it is for. -/
import Derived.Test.YtckdlhgeelhnmaaGreatOpA
import Derived.Test.YtckdlhgeelhnmaaGreatMemA
import Derived.IntWalk
namespace Go.Proofs.YtckdlhgeelhnmaaGreat
open Go.RowKit Go.Mh

theorem acts_take {L : List Pt} {k : Nat} {p : Pt} (h : L[k]? = some p) : acts (L.take (k + 1)) = acts (L.take k) ++ actsP p := by
  rw [List.take_add_one, h, acts_append]; simp [acts_one]
theorem frm_take_le {L : List Pt} (h : ∀ p ∈ L, TP p) {k : Nat} {p : Pt} (hp : L[k]? = some p) : (frm (acts (L.take k)) : Int) + p.n ≤ frm (acts L) := by
  have h1 := acts_take hp
  have h2 : acts L = acts (L.take (k + 1)) ++ acts (L.drop (k + 1)) := by rw [← acts_append, List.take_append_drop]
  have h3 := frm_actsP (h p (List.mem_of_getElem? hp)).fm
  rw [h2, h1, frm_append, frm_append]
  omega
theorem too_take_le (L : List Pt) (k : Nat) : too (acts (L.take k)) ≤ too (acts L) := by
  have h2 : acts L = acts (L.take k) ++ acts (L.drop k) := by rw [← acts_append, List.take_append_drop]
  rw [h2, too_append]; omega
theorem frm_take_le' (L : List Pt) (k : Nat) : frm (acts (L.take k)) ≤ frm (acts L) := by
  have h2 : acts L = acts (L.take k) ++ acts (L.drop k) := by rw [← acts_append, List.take_append_drop]
  rw [h2, frm_append]; omega

/-- What stands in the row after k parts. -/
def doT (D : List It) (L : List Pt) (k : Nat) : List It := doA D (acts (L.take k))
def atT (L : List Pt) (k : Nat) : Nat := frm (acts (L.take k))
theorem doT_zero (D : List It) (L : List Pt) : doT D L 0 = [] := by simp [doT, acts_nil, doA]
theorem atT_zero (L : List Pt) : atT L 0 = 0 := by simp [atT, acts_nil, frm]
theorem doT_put {D : List It} {L : List Pt} {k : Nat} {l : List It} (h : L[k]? = some (putP l)) : doT D L (k + 1) = doT D L k ++ l ∧ atT L (k + 1) = atT L k := by
  unfold doT atT
  rw [acts_take h, doA_append, frm_append, actsP_put, frm_puts]
  have := doA_puts (D.drop (frm (acts (L.take k)))) l []
  rw [List.append_nil] at this
  rw [this]; simp [doA]
theorem doT_cut {D : List It} {L : List Pt} {k : Nat} {n : Nat} (h : L[k]? = some (cutP n)) : doT D L (k + 1) = doT D L k ∧ atT L (k + 1) = atT L k + n := by
  unfold doT atT
  rw [acts_take h, doA_append, frm_append, actsP_cut, frm_cuts]
  have := doA_cuts (D.drop (frm (acts (L.take k)))) n []
  rw [List.append_nil] at this
  rw [Int.toNat_natCast, this]; simp [doA]
theorem doT_keep {D : List It} {L : List Pt} {k : Nat} {c : Kd} {n : Nat} (h : L[k]? = some (keepP c n)) : doT D L (k + 1) = doT D L k ++ ((D.drop (atT L k)).take n).map (markI · c) ∧ atT L (k + 1) = atT L k + n := by
  unfold doT atT
  rw [acts_take h, doA_append, frm_append, actsP_keep, frm_keeps]
  have := doA_keeps (D.drop (frm (acts (L.take k)))) n c []
  rw [List.append_nil] at this
  rw [Int.toNat_natCast, this]; simp [doA]
theorem doT_len {D : List It} {L : List Pt} (k : Nat) (hf : frm (acts L) = D.length) (ht : too (acts L) ≤ 80) : (doT D L k).length ≤ 80 := by
  unfold doT
  have := too_take_le L k
  have := frm_take_le' L k
  rw [doA_len _ _ (by omega)]
  omega

theorem opMark_keep (x : It) (c : Kd) (n : Int) (sv : Value) (w : World) : Calls Tryz.prog 117 #[.agg #[.int .u8 x.c.toNat, .int .i64 x.m, str x.l], .agg #[.int .i64 1, .int .i64 n, sv, .int .i64 c.set, .int .i64 c.clr, .bool c.to, str c.l]] w fun e w' => e = .returned (iv (markI x c)) ∧ Below w.heap.size w w' :=
  opMark_any x (keepP c n) sv w
theorem take_map_step {D : List It} {t j : Nat} {x : It} {f : It → It} (h : D[t + j]? = some x) : ((D.drop t).take (j + 1)).map f = ((D.drop t).take j).map f ++ [f x] := by
  have : (D.drop t)[j]? = some x := by rw [List.getElem?_drop]; exact h
  rw [List.take_add_one, this]; simp

set_option maxRecDepth 100000 in
set_option maxHeartbeats 2000000 in
theorem opDo_any (F G : Nat → Prop) (v u : Value) (D : List It) (L : List Pt) (w : World) (h : RItems F w v D) (g : ROp G w u L) (hok : OpOk L) (hf : frm (acts L) = D.length) (ht : too (acts L) ≤ 80) :
    Calls Tryz.prog 84 #[v, u] w fun e w' => ∃ r, e = .returned r ∧ RItems (w.heap.size ≤ ·) w' r (doA D (acts L)) ∧ Below w.heap.size w w' := by
  obtain ⟨a, cap, rfl, hn⟩ := RdS.len h
  obtain ⟨a', cap', rfl, hn'⟩ := RdS.len g
  have hD80 : D.length ≤ 80 := by have := hok.frm; omega
  have hcapD : D.length ≤ cap := h.capLe
  have H := Lib.hid h; clear h
  have G' := Lib.hid g; clear g
  have hf' := Lib.hid hf; clear hf
  have hlen := Lib.hid (fun k => doT_len k hf'.out ht)
  have hL40 := hok.len
  clear ht
  have hz0 := Lib.hid (doT_zero D L)
  have hz1 := Lib.hid (atT_zero L)
  go_enter Tryz.func84, Tryz.ntmps84
  go_wp2
  go_loopw [5, 6, 13] (fun v t i wr => ∃ k : Nat, k ≤ L.length ∧ i = .int .i64 k ∧ t = .int .i64 (atT L k) ∧ OwnS w.heap.size 50 3 RIt wr v (doT D L k) ∧ Below w.heap.size w wr) (fun _ _ i _ => L.length - (intOf i).toNat)
  case atStart => exact ⟨0, Nat.zero_le _, rfl, by rw [hz1.out]; rfl, by rw [hz0.out]; exact OwnS.nil, Below.refl _ _⟩
  case round =>
    obtain ⟨k, hk, rfl, rfl, ho, hb⟩ := hrel
    have ho' := Lib.hid ho; clear ho
    by_cases hlt : k < L.length
    · obtain ⟨p, hp⟩ : ∃ x, L[k]? = some x := ⟨_, List.getElem?_eq_getElem hlt⟩
      obtain ⟨b, o, sv, rfl, hits, c0, c1, c2, c3, c4, c5, c6⟩ := ROp.at G'.out hb hp
      obtain ⟨sa, sc, rfl, hsn⟩ := RdS.len hits
      have hfle := frm_take_le hok.tp hp
      have hbs : b < wr.heap.size := lt_of_cell c0
      have hI := Lib.hid hits; clear hits
      have htp := hok.tp p (List.mem_of_getElem? hp)
      have hlk := hlen.out k
      have hlk1 := hlen.out (k + 1)
      rcases htp with ⟨c, n, hn0, hc, rfl⟩ | ⟨l, hl0, hli, rfl⟩ | ⟨n, hn0, rfl⟩
      · obtain ⟨m, rfl⟩ : ∃ m : Nat, n = (m : Int) := ⟨n.toNat, by omega⟩
        have hat : atT L k + m ≤ D.length := by have := hf'.out; simp only [keepP] at hfle; unfold atT; omega
        have hnext := Lib.hid (doT_keep (D := D) hp)
        simp only [keepP] at c0 c1 c2 c3 c4 c5 c6 hsn
        clear hp hfle hI
        generalize atT L k = t at *
        generalize doT D L k = base at *
        obtain ⟨x0, hx0⟩ : ∃ x, D[t]? = some x := ⟨_, List.getElem?_eq_getElem (by omega)⟩
        obtain ⟨b2, o2, rfl, _⟩ := RItems.at H.out (Below.refl _ _) hx0
        clear hx0
        have hct : ¬ cap = t := by omega
        go_wp2
        simp only [Nat.add_sub_cancel_left]
        obtain ⟨wo, rfl⟩ : ∃ wo : World, wo = wr := ⟨_, rfl⟩
        go_loopw [5, 29] (fun v j ws => ∃ j' : Nat, j' ≤ m ∧ j = .int .i64 j' ∧ OwnS w.heap.size 50 3 RIt ws v (base ++ ((D.drop t).take j').map (markI · c)) ∧ ws.heap[wo.heap.size]? = some (.cells #[.int .i64 1, .int .i64 m, .slice sa 0 sc, .int .i64 c.set, .int .i64 c.clr, .bool c.to, str c.l] 112 (0, 0)) ∧ Below w.heap.size w ws) (fun _ j _ => m - (intOf j).toNat)
        case atStart => exact ⟨0, Nat.zero_le _, rfl, by simpa using ho'.out.below (bal (brf _) _) fun _ _ _ r => r, heap_new _ _, bal hb _⟩
        case round =>
          obtain ⟨j, hj, rfl, hoi, hbox, hbi⟩ := hrel
          have hoi' := Lib.hid hoi; clear hoi
          have hbox' := Lib.hid hbox; clear hbox
          have hwos : wo.heap.size < wr.heap.size := lt_of_heap hbox'.out
          obtain ⟨a0, a1, a2, a3, a4, a5, a6⟩ := P7.of hbox'.out
          by_cases hjl : j < m
          · obtain ⟨x, hx⟩ : ∃ x, D[t + j]? = some x := ⟨_, List.getElem?_eq_getElem (by omega)⟩
            obtain ⟨b3, o3, e3, x0, x1, x2⟩ := RItems.at H.out hbi hx
            cases e3
            rw [show o2 + (t + j) * 3 = o2 + t * 3 + j * 3 by omega] at x0 x1 x2
            have hstep := Lib.hid (take_map_step (f := (markI · c)) hx)
            have hll : (base ++ ((D.drop t).take j).map (markI · c)).length ≤ 160 := by simp; omega
            have hb2s : b2 < wr.heap.size := lt_of_cell x0
            clear hx
            obtain ⟨xc, xm, xl⟩ := x
            go_wp2_with fail
            refine (opMark_keep ⟨xc, xm, xl⟩ c m _ _).mono ?_
            rintro e w1 ⟨rfl, hb1⟩
            generalize markI ⟨xc, xm, xl⟩ c = y at *
            have HB2 : Below wr.heap.size wr w1 := (bal (brf wr) _).trans (hb1.mono (by simp))
            have hB1 : Below w.heap.size w w1 := btr hbi HB2
            have hbox1 := Lib.hid ((HB2.block _ hwos).trans hbox'.out)
            have hoi1 := Lib.hid (hoi'.out.below HB2 fun _ _ _ r => r)
            have hw1 : wr.heap.size ≤ w1.heap.size := HB2.size
            have hw2 : w.heap.size ≤ w1.heap.size := hB1.size
            clear hb1 a0 a1 a2 a3 a4 a5 a6 x0 x1 x2
            go_wp2_with (at_builtin; refine wpList_app1 rfl (.tmp 33) (.tmp 37) 34 rfl w.heap.size 50 3 32 _ elDoc RIt _ (base ++ ((D.drop t).take j).map (markI · c)) rfl hoi1.out y [.int .u8 y.c.toNat, .int .i64 y.m, str y.l] 50 _ rfl (by simp) rfl (fun _ _ => rfl) RIt_one (by unfold maxLen; omega) (by omega) (by omega) (fun _ _ _ _ _ r => r) ?_; intro v2 w2 ho2 hb2 hz2 hkeep)
            have hbox2 := Lib.hid ((hkeep _ (by omega) (hoi1.out.ne hbox1.out (by decide))).trans hbox1.out)
            have ho2' := Lib.hid ho2
            clear ho2 hkeep
            go_wp2
            go_roundw
            case rel => exact ⟨j + 1, by omega, by go_num, by rw [hstep.out, ← List.append_assoc]; exact ho2'.out, hbox2.out, hB1.trans hb2⟩
            case measure => simp [intOf]; omega
          · obtain rfl : j = m := by omega
            clear hlk1
            go_wp2
            go_roundw
            case rel => exact ⟨k + 1, by omega, by go_num, by rw [hnext.out.2]; go_num, by rw [hnext.out.1]; exact hoi'.out, hbi⟩
            case measure => simp [intOf]; omega
      · have hnext := Lib.hid (doT_put (D := D) hp)
        simp only [putP] at c0 c1 c2 c3 c4 c5 c6 hsn hI
        clear hp hfle
        have hbase := Lib.hid hnext.out.1
        have hlk2 : (doT D L k).length + l.length ≤ 80 := by have := hlk1; rw [hnext.out.1] at this; simpa using this
        clear hlk1
        have htb : atT L k ≤ 80 := by have h1 := frm_take_le' L k; have h2 := hok.frm; unfold atT; omega
        generalize atT L k = t at *
        generalize doT D L k = base at *
        have hoi1 := Lib.hid (ho'.out.below (bal (brf wr) (.cells #[.int .i64 2, .int .i64 0, .slice sa l.length sc, .int .i64 0, .int .i64 0, .bool false, .string ⟨#[]⟩] 112)) fun _ _ _ r => r)
        have hwb : w.heap.size ≤ wr.heap.size := hb.size
        go_wp2_with (at_builtin; refine wpList_app2 rfl (.tmp 42) (.tmp 44) 34 33 50 Tryz.underlying33 rfl w.heap.size 50 3 32 _ elDoc RIt _ base l rfl hoi1.out _ _ rfl (hI.out.to (Kp.below (bal (brf _) _))) RIt_one (by unfold maxLen; omega) (by omega) (by simp; omega) (fun _ _ _ _ _ r => r) ?_; intro v2 w2 ho2 hgrow hB2; obtain ⟨a0, a1, a2, a3, a4, a5, a6⟩ := P7.of ((hgrow.block wr.heap.size (by simp) (hoi1.out.ne (heap_new _ _) (by decide))).trans (heap_new _ _)); have ho2' := Lib.hid ho2; clear ho2 hgrow)
        go_roundw
        case rel => exact ⟨k + 1, by omega, by go_num, by rw [hnext.out.2], by rw [hnext.out.1]; exact ho2'.out, (bal hb _).trans hB2⟩
        case measure => simp [intOf]; omega
      · obtain ⟨m, rfl⟩ : ∃ m : Nat, n = (m : Int) := ⟨n.toNat, by omega⟩
        have hat : atT L k + m ≤ D.length := by have := hf'.out; simp only [cutP] at hfle; unfold atT; omega
        have hnext := Lib.hid (doT_cut (D := D) hp)
        simp only [cutP] at c0 c1 c2 c3 c4 c5 c6 hsn
        clear hp hfle hI
        have ho2 := Lib.hid (hnext.out.1 ▸ ho'.out)
        generalize atT L k = t at *
        go_wp2
        go_roundw
        case rel => exact ⟨k + 1, by omega, by go_num, by rw [hnext.out.2]; go_num, ho2.out.below (bal (brf _) _) fun _ _ _ r => r, bal hb _⟩
        case measure => simp [intOf]; omega
    · obtain rfl : k = L.length := by omega
      have hfin : Hid (doT D L L.length = doA D (acts L)) := Lib.hid (by unfold doT; rw [List.take_length])
      go_wp2
      go_ret
      exact ⟨_, rfl, by rw [← hfin.out]; exact ho'.out.rd, hb⟩
end Go.Proofs.YtckdlhgeelhnmaaGreat
