/- The references on documents: CheckItem, CheckItems, CheckDoc, RunsOf. -/
import Derived.Test.YtgodceplajkcdaaRefS
import Derived.Test.YtgodceplajkcdaaDoc
import Derived.IntWalk
namespace Go.Proofs.Ytgodceplajkcdaa
open Go.RowKit Go.Mh

set_option maxHeartbeats 400000 in
theorem checkItem_any (x : It) (w : World) :
    Calls Try.prog 32 #[.agg #[.int .u8 x.c.toNat, .int .i64 x.m, str x.l]] w fun e w' => e = .returned (.int .i64 (chkItem x)) ∧ Below w.heap.size w w' := by
  obtain ⟨c, m, l⟩ := x
  have hch : Hid (chkItem ⟨c, m, l⟩ = if ¬ (c.toNat : Int) = 10 ∧ ((c.toNat : Int) < 32 ∨ 126 < (c.toNat : Int)) then 1
    else if m < 0 ∨ 3 < m then 3 else if l ≠ [] ∧ ((c.toNat : Int) = 10 ∨ may l = false) then 4 else 0) := rfl
  go_enter Try.func32, Try.ntmps32
  go_wp2_with (go_at_call 83; refine (mayBe_any _ _).mono ?_; rintro e w1 ⟨rfl, hb⟩)
  all_goals
    go_ret
    go_light
    refine ⟨congrArg (fun n => Ending.returned (Value.int IntKind.i64 n)) ?_, ?_⟩
    · rw [hch.out]
      clear hch
      first | (simp_all; done) | (simp_all; rw [if_neg (by omega), if_neg (by omega)])
    · first | exact bal (brf _) _ | exact (bal (brf _) _).trans ((by assumption : Below _ _ _).mono (by simp))

set_option maxHeartbeats 400000 in
theorem checkItems_any (F : Nat → Prop) (v : Value) (L : List It) (w : World) (h : RItems F w v L) :
    Calls Try.prog 34 #[v] w fun e w' => e = .returned (.int .i64 (chkItems L)) ∧ Below w.heap.size w w' := by
  obtain ⟨a, cap, rfl, hn⟩ := RdS.len h
  go_enter Try.func34, Try.ntmps34
  go_wp2
  go_loopw [8] (fun i wr => ∃ k : Nat, k ≤ L.length ∧ i = .int .i64 k ∧ (∀ x ∈ L.take k, chkItem x = 0) ∧ Below w.heap.size w wr) (fun i _ => L.length - (intOf i).toNat)
  case atStart => exact ⟨0, Nat.zero_le _, rfl, by simp, Below.refl _ _⟩
  case round =>
    obtain ⟨k, hk, rfl, hall, hb⟩ := hrel
    have hal := Lib.hid hall; clear hall
    by_cases hlt : k < L.length
    · obtain ⟨x, hx⟩ : ∃ x, L[k]? = some x := ⟨_, List.getElem?_eq_getElem hlt⟩
      obtain ⟨b, o, rfl, c0, c1, c2⟩ := RItems.at h hb hx
      have hx' := Lib.hid hx; clear hx
      have H := Lib.hid h; clear h
      obtain ⟨c, m, l⟩ := x
      go_wp2_with (go_at_call 32; refine (checkItem_any ⟨c, m, l⟩ _).mono ?_; rintro e w1 ⟨rfl, hb1⟩)
      · have hne : chkItem ⟨c, m, l⟩ ≠ 0 := bne_iff_ne.1 (show (chkItem ⟨c, m, l⟩ != 0) = true by assumption)
        have hfin := Lib.hid (chkItems_some hx'.out hne hal.out)
        go_ret
        exact ⟨by rw [hfin.out]; rfl, (bal hb _).trans (hb1.mono (by have := hb.size; simp; omega))⟩
      · have heq : chkItem ⟨c, m, l⟩ = 0 := by simpa using (show (chkItem ⟨c, m, l⟩ != 0) = false by assumption)
        go_roundw
        case rel => exact ⟨k + 1, by omega, by go_num, take_snoc_mem hx'.out hal.out heq, (bal hb _).trans (hb1.mono (by have := hb.size; simp; omega))⟩
        case measure => simp [intOf]; omega
    · obtain rfl : k = L.length := by omega
      rw [List.take_length] at hal
      have hfin := Lib.hid (chkItems_none hal.out)
      go_wp2
      go_ret
      exact ⟨by rw [hfin.out]; rfl, hb⟩

set_option maxHeartbeats 400000 in
theorem checkDoc_any (F : Nat → Prop) (v : Value) (L : List It) (w : World) (h : RItems F w v L) :
    Calls Try.prog 29 #[v] w fun e w' => e = .returned (.int .i64 (chkDoc L)) ∧ Below w.heap.size w w' := by
  have hitems := Lib.hid (fun w' (hb : Below w.heap.size w w') => checkItems_any F v L w' (h.to (Kp.below hb)))
  obtain ⟨a, cap, rfl, hn⟩ := RdS.len h
  by_cases h80 : 80 < L.length
  · have hfin := Lib.hid (chkDoc_many h80)
    have H := Lib.hid h; clear h
    have h80' : (80 : Int) < (L.length : Int) := by omega
    go_enter Try.func29, Try.ntmps29
    go_wp2
    go_ret
    exact ⟨by rw [hfin.out]; rfl, Below.refl _ _⟩
  have h80' : ¬ (80 : Int) < (L.length : Int) := by omega
  by_cases hit : chkItems L = 0
  · have hit' := Lib.hid hit
    rcases Nat.eq_zero_or_pos L.length with h0 | hpos
    · obtain rfl : L = [] := List.eq_nil_of_length_eq_zero h0
      have hfin := Lib.hid chkDoc_nil
      clear hit h0 h80
      have H := Lib.hid h; clear h
      go_enter Try.func29, Try.ntmps29
      go_wp2_with (go_at_call 34; refine (hitems.out _ (Below.refl _ _)).mono ?_; rintro e w1 ⟨rfl, hb⟩; rw [hit'.out])
      go_ret
      exact ⟨by rw [hfin.out]; rfl, hb⟩
    · obtain ⟨x, hx⟩ : ∃ x, L[L.length - 1]? = some x := ⟨_, List.getElem?_eq_getElem (by omega)⟩
      have hfin := Lib.hid (chkDoc_last h80 hit hx)
      obtain ⟨k, hk⟩ : ∃ k, L.length = k + 1 := ⟨L.length - 1, by omega⟩
      clear hit h80 hpos
      have hk1 : L.length - 1 = k := by omega
      rw [hk1] at hx
      clear hk1
      have hx' := Lib.hid hx; clear hx
      have H := Lib.hid h; clear h
      obtain ⟨b, o, rfl, _⟩ := RItems.at H.out (Below.refl _ _) hx'.out
      obtain ⟨c, m, l⟩ := x
      generalize L.length = n at *
      subst hk
      have hni : ((k : Int) + 1 == 0) = false := by rw [beq_eq_false_iff_ne]; omega
      by_cases hc : (c.toNat : Int) = 10
      · have hcb : ((c.toNat : Int) != 10) = false := by simpa using hc
        simp only [hc, if_true] at hfin
        clear hc
        go_enter Try.func29, Try.ntmps29
        go_wp2_with (go_at_call 34; refine (hitems.out _ (Below.refl _ _)).mono ?_; rintro e w1 ⟨rfl, hb⟩; rw [hit'.out]; obtain ⟨b', o', e', c0, c1, c2⟩ := RItems.at H.out hb hx'.out; cases e')
        go_ret
        exact ⟨by rw [hfin.out]; rfl, hb⟩
      · have hcb : ((c.toNat : Int) != 10) = true := by simpa using hc
        simp only [hc, if_false] at hfin
        clear hc
        go_enter Try.func29, Try.ntmps29
        go_wp2_with (go_at_call 34; refine (hitems.out _ (Below.refl _ _)).mono ?_; rintro e w1 ⟨rfl, hb⟩; rw [hit'.out]; obtain ⟨b', o', e', c0, c1, c2⟩ := RItems.at H.out hb hx'.out; cases e')
        go_ret
        exact ⟨by rw [hfin.out]; rfl, hb⟩
  · have hfin := Lib.hid (chkDoc_items h80 hit)
    have hit' : (chkItems L != 0) = true := by simpa using hit
    have H := Lib.hid h; clear h h80 hit
    go_enter Try.func29, Try.ntmps29
    go_wp2_with (go_at_call 34; refine (hitems.out _ (Below.refl _ _)).mono ?_; rintro e w1 ⟨rfl, hb⟩)
    go_ret
    exact ⟨by rw [hfin.out]; rfl, hb⟩

set_option maxRecDepth 100000 in
set_option maxHeartbeats 2000000 in
theorem runsOf_any (F : Nat → Prop) (v : Value) (L : List It) (w : World) (h : RItems F w v L) (hl : L.length ≤ 80) :
    Calls Try.prog 37 #[v] w fun e w' => ∃ u, e = .returned u ∧ RInts (w.heap.size ≤ ·) w' u (runs L) ∧ Below w.heap.size w w' := by
  obtain ⟨a, cap, rfl, hn⟩ := RdS.len h
  have H := Lib.hid h; clear h
  go_enter Try.func37, Try.ntmps37
  go_wp2
  go_loopw [3, 9] (fun v i wr => ∃ k : Nat, k ≤ L.length ∧ i = .int .i64 k ∧ OwnS w.heap.size 3 1 RI wr v (((List.range k).filter (beg L)).map Int.ofNat) ∧ Below w.heap.size w wr) (fun _ i _ => L.length - (intOf i).toNat)
  case atStart => exact ⟨0, Nat.zero_le _, rfl, OwnS.nil, Below.refl _ _⟩
  case round =>
    obtain ⟨k, hk, rfl, ho, hb⟩ := hrel
    have ho' := Lib.hid ho; clear ho
    by_cases hlt : k < L.length
    · obtain ⟨x, hx⟩ : ∃ x, L[k]? = some x := ⟨_, List.getElem?_eq_getElem hlt⟩
      obtain ⟨b, o, rfl, c0, c1, c2⟩ := RItems.at H.out hb hx
      have hx' := Lib.hid hx; clear hx
      obtain ⟨c, m, l⟩ := x
      have hlk := Lib.hid (runs_len L k)
      by_cases h0 : k = 0
      · have hbeg : Hid (beg L k = true) := by have := hx'.out; rw [h0] at this; show beg L k = true; rw [h0]; exact beg_zero this
        have hk0 : decide ((0 : Int) < (k : Int)) = false := by simp; omega
        have hk0n : decide (0 < k) = false := by simp; omega
        have h0' := Lib.hid h0; clear h0
        go_wp2_with fail
        go_quiet (fail)
        go_wp2_with (at_builtin; refine wpList_app1 rfl (.tmp 54) (.tmp 56) 24 rfl w.heap.size 3 1 8 _ elInts RI _ _ rfl (ho'.out.below ((Below.refl _ _).alloc (Nat.le_refl _) _) fun _ _ _ r => r) (k : Int) [.int .i64 (k : Int)] 3 _ rfl (by simp) rfl (fun _ _ => rfl) RI_one (by have := hlk.out; unfold maxLen; omega) (by have := hlk.out; omega) (by have := hb.size; simp; omega) (fun _ _ _ _ _ r => r) ?_; intro v2 w2 ho2 hb2 hz2 _)
        go_roundw
        case rel => exact ⟨k + 1, by omega, by go_num, by rw [runs_step, hbeg.out, if_pos rfl]; exact ho2, (bdrewN (hb.alloc hb.size _) _).trans hb2⟩
        case measure => simp [intOf]; omega
      · obtain ⟨j, rfl⟩ : ∃ j, k = j + 1 := ⟨k - 1, by omega⟩
        clear h0
        obtain ⟨y, hy⟩ : ∃ y, L[j]? = some y := ⟨_, List.getElem?_eq_getElem (by omega)⟩
        obtain ⟨b', o', e', d0, d1, d2⟩ := RItems.at H.out hb hy
        cases e'
        have hb0 := Lib.hid (beg_succ hx'.out hy)
        clear hy
        obtain ⟨c', m', l'⟩ := y
        have hk0 : (0 : Int) < (j : Int) + 1 := by omega
        have hs1 : IntKind.i64.wrap (j : Int) = (j : Int) := IntWalk.i64_in _ (by omega)
        have hs2 : (j : Int) < (L.length : Int) := by omega
        have hbs : b < wr.heap.size := lt_of_cell c0
        by_cases q0 : ((c.toNat : Int) == 10) = true
        · have hbeg : Hid (beg L (j + 1) = true) := by show beg L (j + 1) = true; rw [hb0.out]; simp [q0]
          have g0 : ((c.toNat : Int) != 10) = false := by simpa using q0
          clear q0
          go_wp2_with fail
          go_quiet (fail)
          go_wp2_with (at_builtin; refine wpList_app1 rfl (.tmp 54) (.tmp 56) 24 rfl w.heap.size 3 1 8 _ elInts RI _ _ rfl (ho'.out.below ((Below.refl _ _).alloc (Nat.le_refl _) _) fun _ _ _ r => r) ((j : Int) + 1 : Int) [.int .i64 ((j : Int) + 1 : Int)] 3 _ rfl (by simp) rfl (fun _ _ => rfl) RI_one (by have := hlk.out; unfold maxLen; omega) (by have := hlk.out; omega) (by have := hb.size; simp; omega) (fun _ _ _ _ _ r => r) ?_; intro v2 w2 ho2 hb2 hz2 _)
          go_roundw
          case rel => exact ⟨(j + 1) + 1, by omega, by go_num, by rw [runs_step, hbeg.out, if_pos rfl]; exact ho2, (bdrewN (hb.alloc hb.size _) _).trans hb2⟩
          case measure => simp [intOf]; omega
        have r0 := Lib.hid (show ((c.toNat : Int) == 10) = false by simpa using q0)
        have g0 : ((c.toNat : Int) != 10) = true := by simpa using q0
        clear q0
        by_cases q1 : ((c'.toNat : Int) == 10) = true
        · have hbeg : Hid (beg L (j + 1) = true) := by show beg L (j + 1) = true; rw [hb0.out]; simp [q1]
          have g1 : ((c'.toNat : Int) != 10) = false := by simpa using q1
          clear q1
          go_wp2_with fail
          go_quiet (fail)
          go_wp2_with (at_builtin; refine wpList_app1 rfl (.tmp 54) (.tmp 56) 24 rfl w.heap.size 3 1 8 _ elInts RI _ _ rfl (ho'.out.below ((Below.refl _ _).alloc (Nat.le_refl _) _) fun _ _ _ r => r) ((j : Int) + 1 : Int) [.int .i64 ((j : Int) + 1 : Int)] 3 _ rfl (by simp) rfl (fun _ _ => rfl) RI_one (by have := hlk.out; unfold maxLen; omega) (by have := hlk.out; omega) (by have := hb.size; simp; omega) (fun _ _ _ _ _ r => r) ?_; intro v2 w2 ho2 hb2 hz2 _)
          go_roundw
          case rel => exact ⟨(j + 1) + 1, by omega, by go_num, by rw [runs_step, hbeg.out, if_pos rfl]; exact ho2, (bdrewN (hb.alloc hb.size _) _).trans hb2⟩
          case measure => simp [intOf]; omega
        have r1 := Lib.hid (show ((c'.toNat : Int) == 10) = false by simpa using q1)
        have g1 : ((c'.toNat : Int) != 10) = true := by simpa using q1
        clear q1
        by_cases q2 : (m' != m) = true
        · have hbeg : Hid (beg L (j + 1) = true) := by show beg L (j + 1) = true; rw [hb0.out]; simp [q2]
          have g2 : (m == m') = false := by rw [beq_eq_false_iff_ne]; rw [bne_iff_ne] at q2; exact fun e => q2 e.symm
          clear q2
          go_wp2_with fail
          go_quiet (fail)
          go_wp2_with (at_builtin; refine wpList_app1 rfl (.tmp 54) (.tmp 56) 24 rfl w.heap.size 3 1 8 _ elInts RI _ _ rfl (ho'.out.below ((Below.refl _ _).alloc (Nat.le_refl _) _) fun _ _ _ r => r) ((j : Int) + 1 : Int) [.int .i64 ((j : Int) + 1 : Int)] 3 _ rfl (by simp) rfl (fun _ _ => rfl) RI_one (by have := hlk.out; unfold maxLen; omega) (by have := hlk.out; omega) (by have := hb.size; simp; omega) (fun _ _ _ _ _ r => r) ?_; intro v2 w2 ho2 hb2 hz2 _)
          go_roundw
          case rel => exact ⟨(j + 1) + 1, by omega, by go_num, by rw [runs_step, hbeg.out, if_pos rfl]; exact ho2, (bdrewN (hb.alloc hb.size _) _).trans hb2⟩
          case measure => simp [intOf]; omega
        have r2 := Lib.hid (show (m' != m) = false by simpa using q2)
        have g2 : (m == m') = true := by rw [beq_iff_eq]; simp at q2; exact q2.symm
        clear q2
        by_cases q3 : (l' != l) = true
        · have hbeg : Hid (beg L (j + 1) = true) := by show beg L (j + 1) = true; rw [hb0.out]; simp [q3]
          have g3 : (l == l') = false := by rw [beq_eq_false_iff_ne]; rw [bne_iff_ne] at q3; exact fun e => q3 e.symm
          clear q3
          go_wp2_with fail
          go_quiet (fail)
          go_wp2_with (at_builtin; refine wpList_app1 rfl (.tmp 54) (.tmp 56) 24 rfl w.heap.size 3 1 8 _ elInts RI _ _ rfl (ho'.out.below ((Below.refl _ _).alloc (Nat.le_refl _) _) fun _ _ _ r => r) ((j : Int) + 1 : Int) [.int .i64 ((j : Int) + 1 : Int)] 3 _ rfl (by simp) rfl (fun _ _ => rfl) RI_one (by have := hlk.out; unfold maxLen; omega) (by have := hlk.out; omega) (by have := hb.size; simp; omega) (fun _ _ _ _ _ r => r) ?_; intro v2 w2 ho2 hb2 hz2 _)
          go_roundw
          case rel => exact ⟨(j + 1) + 1, by omega, by go_num, by rw [runs_step, hbeg.out, if_pos rfl]; exact ho2, (bdrewN (hb.alloc hb.size _) _).trans hb2⟩
          case measure => simp [intOf]; omega
        have r3 := Lib.hid (show (l' != l) = false by simpa using q3)
        have g3 : (l == l') = true := by rw [beq_iff_eq]; simp at q3; exact q3.symm
        clear q3
        have hbeg : Hid (beg L (j + 1) = false) := by show beg L (j + 1) = false; rw [hb0.out, r0.out, r1.out, r2.out, r3.out]; rfl
        go_wp2_with fail
        go_quiet (fail)
        go_wp2
        go_roundw
        case rel => exact ⟨(j + 1) + 1, by omega, by go_num, by rw [runs_step, hbeg.out, if_neg (by decide), List.append_nil]; exact ho'.out.below (bdrewN ((Below.refl _ _).alloc (Nat.le_refl _) _) _) fun _ _ _ r => r, bdrewN (hb.alloc hb.size _) _⟩
        case measure => simp [intOf]; omega
    · obtain rfl : k = L.length := by omega
      go_wp2
      go_ret
      exact ⟨_, rfl, ho'.out.rd, hb⟩
end Go.Proofs.Ytgodceplajkcdaa
